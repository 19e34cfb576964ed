import Derived.Test.YtfmhhckkpenldaaGreatDoorL6S
import Derived.OpenShut
import Derived.ShutString
import Derived.ChangeOld
import Derived.Test.YtfmhhckkpenldaaGreatDoorDraw
import Derived.Test.YtfmhhckkpenldaaGreatDoorCards
import Derived.Test.YtfmhhckkpenldaaGreatDoorTie
import Derived.SevenTiedAt
import Derived.Test.YtfmhhckkpenldaaGreatDoorM26
import Derived.Test.YtfmhhckkpenldaaGreatDoorM13
/- The reference's l9List: what one is told is drawn. -/
namespace Go.Proofs.YtfmhhckkpenldaaGreatDoor
open Go.RowKit
def l9Nu : List Int := [3, 5, 8, 1, 0]
theorem l9Nu_le : ∀ x ∈ l9Nu, 0 ≤ x ∧ x ≤ 8 := by decide
def l9Mu : List Int := [2, 4, 1, 6, 0]
theorem l9Mu_le : ∀ x ∈ l9Mu, 0 ≤ x ∧ x ≤ 6 := by decide

/-- how l9List leaves -/
def L9D (u0 w : World) (RA : Option Addr) (rb : List UInt8) (rc g p n : Nat) (e : Ending) (w' : World) : Prop :=
  ∃ (A4 : Option Addr) (L : List Let) (c4 q : Nat), e = .returned (.slice A4 L.length c4) ∧ LN w' A4 L 2000 ∧ L.length ≤ c4 ∧ c4 ≤ maxLen ∧ q ≤ p + n ∧ Rd u0 w' RA rb rc g q ∧ w.grownBy w' (some g)
theorem LN.take {W : World} {A : Option Addr} {L : List Let} {n : Nat} (h : LN W A L n) (j : Nat) (hj : j ≤ L.length) : ∃ M : List Let, M.length = j ∧ LN W A M n := by
  refine ⟨L.take j, by rw [List.length_take]; omega, ?_, fun x hx => h.2.1 x (List.mem_of_mem_take hx), by rw [List.length_take]; have := h.2.2; omega⟩
  intro hl
  rw [List.length_take] at hl
  obtain ⟨b, o, cs, e, hb, hc⟩ := h.1 (by omega)
  refine ⟨b, o, cs, e, hb, fun i k x hx hk => hc i k x ?_ hk⟩
  rw [List.getElem?_take] at hx
  split at hx
  · exact hx
  · exact absurd hx (by simp)
theorem Sl.litNA (W : World) (a : Nat) (ha : a = W.heap.size) (t : TypeId) (l : List Int) (cs : Array Value) (h : cs.toList = l.map (Value.int .i64)) : Sl (fun x => [.int .i64 x]) 1 (W.alloc (.cells cs t)) (some ⟨a, 0, none⟩) l := by subst ha; exact Sl.litN W t l cs h
theorem SD.noBox {w0 w W : World} {A : Option Addr} {bs : List UInt8} {c g q : Nat} {L : List (Nat × TypeId × Array Value)} {Ps : List (World → Prop)} (h : SD w0 A bs c g q w L Ps W) (Qs : List (World → Prop)) (hq : ∀ P ∈ Qs, KpC P ∧ P W) : SD w0 A bs c g q w [] Qs W := ⟨⟨fun b hb => absurd hb (by simp), by simp⟩, hq, h.2.2⟩
set_option maxRecDepth 100000 in
set_option maxHeartbeats 16000000 in
theorem l9List_any (u0 : World) (RA : Option Addr) (rb : List UInt8) (rc g p : Nat) (w : World) (hR : Rd u0 w RA rb rc g p) (hp : p < 80000) :
    Calls Tryz.prog 7 #[.pointer (some ⟨g, 0, none⟩)] w (L9D u0 w RA rb rc g p 6000) := by
  have hgw : g < w.heap.size := hR.1.lt
  have H := Lib.hid (SD.nil hR)
  clear hR
  go_enter Tryz.func7, Tryz.ntmps7
  go_wp2_with fail
  refine (pick_any u0 RA rb rc g p 2 _ H.out.rd (by omega) (by omega)).mono ?_
  rintro e v1 ⟨k, hk, rfl, hR9, hG9⟩
  replace H := Lib.hid (H.out.draw hR9 hG9)
  clear hR9 hG9
  rcases (show k = 0 ∨ k = 1 by omega) with rfl | rfl
  case inl =>
    clear hk
    go_wp2_with fail
    refine (l6Some_any u0 RA rb rc g (p + 1) _ H.out.rd (by omega)).mono ?_
    rintro e v2 ⟨now, A, l, c, on, bad, t, A2, ws, c2, A3, ns, c3, skip, gone, inb, q1, rfl, hV2, hW2, hN2, hq1, hR9, hG9⟩
    replace H := Lib.hid (H.out.draw hR9 hG9)
    clear hR9 hG9
    replace H := Lib.hid (SD.add (SD.add (SD.add H.out (fun W => VK W now A l) VK.c hV2) (fun W => WK W A2 ws) WK.c hW2) (fun W => NK W A3 ns) NK.c hN2)
    clear hV2 hW2 hN2
    have hw2 : w.heap.size ≤ v2.heap.size := H.out.gr.size
    replace H := Lib.hid (SD.boxes H.out [(36, #[.int .i64 now, .slice A l.length c]), (44, #[.bool on, .bool bad, .int .i64 t, .slice A2 ws.length c2, .slice A3 ns.length c3, .bool skip, .bool gone, .string inb])])
    go_upto_region 3 with fail
    change Code.wp _ _ _ _ (allocAll v2 [(36, #[.int .i64 now, .slice A l.length c]), (44, #[.bool on, .bool bad, .int .i64 t, .slice A2 ws.length c2, .slice A3 ns.length c3, .bool skip, .bool gone, .string inb])])
    generalize allocAll v2 [(36, #[.int .i64 now, .slice A l.length c]), (44, #[.bool on, .bool bad, .int .i64 t, .slice A2 ws.length c2, .slice A3 ns.length c3, .bool skip, .bool gone, .string inb])] = v3 at *
    generalize v2.heap.size = g2 at *
    have H : Hid (SD u0 RA rb rc g q1 w [(g2, 36, #[.int .i64 now, .slice A l.length c]), (g2 + 1, 44, #[.bool on, .bool bad, .int .i64 t, .slice A2 ws.length c2, .slice A3 ns.length c3, .bool skip, .bool gone, .string inb])] [fun W => VK W now A l, fun W => WK W A2 ws, fun W => NK W A3 ns] v3) := Lib.hid H.out
    have hl3 : g2 + 1 < v3.heap.size := (H.out.blk 1 rfl).lt
    go_cut [7] (fun v7 wx => ∃ (A5 : Option Addr) (L5 : List Let) (c5 q2 : Nat), v7 = .slice A5 L5.length c5 ∧ q2 ≤ q1 + 601 ∧ L5.length ≤ c5 ∧ c5 ≤ maxLen ∧ Hid (SD u0 RA rb rc g q2 w [] [fun W => LN W A5 L5 2000] wx))
    case first =>
      have hB0_0 : ∀ W : World, Blk W (g2) 36 #[.int .i64 now, .slice A l.length c] → W.cell? ⟨g2, 0, none⟩ = some (.int .i64 now) := fun W h => h.cell 0
      have hB0_1 : ∀ W : World, Blk W (g2) 36 #[.int .i64 now, .slice A l.length c] → W.cell? ⟨g2, 1, none⟩ = some (.slice A l.length c) := fun W h => h.cell 1
      have hB1_0 : ∀ W : World, Blk W (g2 + 1) 44 #[.bool on, .bool bad, .int .i64 t, .slice A2 ws.length c2, .slice A3 ns.length c3, .bool skip, .bool gone, .string inb] → W.cell? ⟨g2 + 1, 0, none⟩ = some (.bool on) := fun W h => h.cell 0
      have hB1_1 : ∀ W : World, Blk W (g2 + 1) 44 #[.bool on, .bool bad, .int .i64 t, .slice A2 ws.length c2, .slice A3 ns.length c3, .bool skip, .bool gone, .string inb] → W.cell? ⟨g2 + 1, 1, none⟩ = some (.bool bad) := fun W h => h.cell 1
      have hB1_2 : ∀ W : World, Blk W (g2 + 1) 44 #[.bool on, .bool bad, .int .i64 t, .slice A2 ws.length c2, .slice A3 ns.length c3, .bool skip, .bool gone, .string inb] → W.cell? ⟨g2 + 1, 2, none⟩ = some (.int .i64 t) := fun W h => h.cell 2
      have hB1_3 : ∀ W : World, Blk W (g2 + 1) 44 #[.bool on, .bool bad, .int .i64 t, .slice A2 ws.length c2, .slice A3 ns.length c3, .bool skip, .bool gone, .string inb] → W.cell? ⟨g2 + 1, 3, none⟩ = some (.slice A2 ws.length c2) := fun W h => h.cell 3
      have hB1_4 : ∀ W : World, Blk W (g2 + 1) 44 #[.bool on, .bool bad, .int .i64 t, .slice A2 ws.length c2, .slice A3 ns.length c3, .bool skip, .bool gone, .string inb] → W.cell? ⟨g2 + 1, 4, none⟩ = some (.slice A3 ns.length c3) := fun W h => h.cell 4
      have hB1_5 : ∀ W : World, Blk W (g2 + 1) 44 #[.bool on, .bool bad, .int .i64 t, .slice A2 ws.length c2, .slice A3 ns.length c3, .bool skip, .bool gone, .string inb] → W.cell? ⟨g2 + 1, 5, none⟩ = some (.bool skip) := fun W h => h.cell 5
      have hB1_6 : ∀ W : World, Blk W (g2 + 1) 44 #[.bool on, .bool bad, .int .i64 t, .slice A2 ws.length c2, .slice A3 ns.length c3, .bool skip, .bool gone, .string inb] → W.cell? ⟨g2 + 1, 6, none⟩ = some (.bool gone) := fun W h => h.cell 6
      have hB1_7 : ∀ W : World, Blk W (g2 + 1) 44 #[.bool on, .bool bad, .int .i64 t, .slice A2 ws.length c2, .slice A3 ns.length c3, .bool skip, .bool gone, .string inb] → W.cell? ⟨g2 + 1, 7, none⟩ = some (.string inb) := fun W h => h.cell 7
      have hb5 : Blk v3 (g2) 36 #[.int .i64 now, .slice A l.length c] := H.out.blk 0 rfl
      have hb6 : Blk v3 (g2 + 1) 44 #[.bool on, .bool bad, .int .i64 t, .slice A2 ws.length c2, .slice A3 ns.length c3, .bool skip, .bool gone, .string inb] := H.out.blk 1 rfl
      try go_wp2_with fail
      have H0 := Lib.hid H.out
      go_region_held3 (fun W => Blk W (g2) 36 #[.int .i64 now, .slice A l.length c] ∧ Blk W (g2 + 1) 44 #[.bool on, .bool bad, .int .i64 t, .slice A2 ws.length c2, .slice A3 ns.length c3, .bool skip, .bool gone, .string inb])
        ((refine ⟨?_, ?_⟩ <;> (repeat (first | (with_reducible assumption) | (with_reducible refine Blk.drew ?_) | (with_reducible refine Blk.alloc ?_ _) | (with_reducible refine Blk.far ?_ (by simp <;> omega) _)))))
        (first
          | (with_reducible show Calls _ _ _ (World.drew (World.alloc v3 (.cells #[.int .i64 3, .int .i64 5, .int .i64 8, .int .i64 1, .int .i64 0] 3))) _
             go_at_call 15
             have S9 : Sl (fun x => [.int .i64 x]) 1 (World.drew (World.alloc v3 (.cells #[.int .i64 3, .int .i64 5, .int .i64 8, .int .i64 1, .int .i64 0] 3))) (some ⟨v3.heap.size, 0, none⟩) l9Nu := (Sl.litNA v3 (v3.heap.size) rfl 3 l9Nu #[.int .i64 3, .int .i64 5, .int .i64 8, .int .i64 1, .int .i64 0] rfl).below (kDB _)
             refine (num_any u0 RA rb rc g q1 _ l9Nu 5 _ (H0.out.kept ((kFF v3 (.cells #[.int .i64 3, .int .i64 5, .int .i64 8, .int .i64 1, .int .i64 0] 3)).drew)).rd (by omega) (by decide) S9 (by intro b o h; simp at h; omega)).mono ?_
             rintro e v4 ⟨k, hk, rfl, hR9, hG9⟩
             have hk9 := l9Nu_le k hk
             obtain ⟨n, rfl⟩ : ∃ n : Nat, k = (n : Int) := ⟨k.toNat, by omega⟩
             have hn8 : n ≤ 8 := by omega
             have hs4 : v3.heap.size ≤ v4.heap.size := Nat.le_trans ((kFF v3 (.cells #[.int .i64 3, .int .i64 5, .int .i64 8, .int .i64 1, .int .i64 0] 3)).drew).size hG9.size
             first
             | replace HB5 := Lib.hid (Blk.grown ((HB5.out).alloc _) hG9 (by simp; omega))
             | skip
             first
             | replace HB6 := Lib.hid (Blk.grown ((HB6.out).alloc _) hG9 (by simp; omega))
             | skip
             replace H := Lib.hid ((H0.out.kept ((kFF v3 (.cells #[.int .i64 3, .int .i64 5, .int .i64 8, .int .i64 1, .int .i64 0] 3)).drew)).draw hR9 hG9)
             have hc0 : Blk v4 (g2) 36 #[.int .i64 now, .slice A l.length c] := H.out.blk 0 rfl
             have hc1 : Blk v4 (g2 + 1) 44 #[.bool on, .bool bad, .int .i64 t, .slice A2 ws.length c2, .slice A3 ns.length c3, .bool skip, .bool gone, .string inb] := H.out.blk 1 rfl
             clear hR9 hG9 S9 hk hk9)
          | (with_reducible show Calls _ _ _ (World.drew (World.alloc (World.alloc v3 (.cells #[.int .i64 3, .int .i64 5, .int .i64 8, .int .i64 1, .int .i64 0] 3)) (.cells #[.int .i64 0, .slice none 0 0] 36))) _
             go_at_call 15
             have S9 : Sl (fun x => [.int .i64 x]) 1 (World.drew (World.alloc (World.alloc v3 (.cells #[.int .i64 3, .int .i64 5, .int .i64 8, .int .i64 1, .int .i64 0] 3)) (.cells #[.int .i64 0, .slice none 0 0] 36))) (some ⟨v3.heap.size, 0, none⟩) l9Nu := ((Sl.litNA v3 (v3.heap.size) rfl 3 l9Nu #[.int .i64 3, .int .i64 5, .int .i64 8, .int .i64 1, .int .i64 0] rfl).below (kFF (World.alloc v3 (.cells #[.int .i64 3, .int .i64 5, .int .i64 8, .int .i64 1, .int .i64 0] 3)) (.cells #[.int .i64 0, .slice none 0 0] 36))).below (kDB _)
             refine (num_any u0 RA rb rc g q1 _ l9Nu 5 _ (H0.out.kept ((bthen (kFF v3 (.cells #[.int .i64 3, .int .i64 5, .int .i64 8, .int .i64 1, .int .i64 0] 3)) (kFF (World.alloc v3 (.cells #[.int .i64 3, .int .i64 5, .int .i64 8, .int .i64 1, .int .i64 0] 3)) (.cells #[.int .i64 0, .slice none 0 0] 36))).drew)).rd (by omega) (by decide) S9 (by intro b o h; simp at h; omega)).mono ?_
             rintro e v4 ⟨k, hk, rfl, hR9, hG9⟩
             have hk9 := l9Nu_le k hk
             obtain ⟨n, rfl⟩ : ∃ n : Nat, k = (n : Int) := ⟨k.toNat, by omega⟩
             have hn8 : n ≤ 8 := by omega
             have hs4 : v3.heap.size ≤ v4.heap.size := Nat.le_trans ((bthen (kFF v3 (.cells #[.int .i64 3, .int .i64 5, .int .i64 8, .int .i64 1, .int .i64 0] 3)) (kFF (World.alloc v3 (.cells #[.int .i64 3, .int .i64 5, .int .i64 8, .int .i64 1, .int .i64 0] 3)) (.cells #[.int .i64 0, .slice none 0 0] 36))).drew).size hG9.size
             have HB5 := Lib.hid (Blk.grown ((Blk.newA (World.alloc v3 (.cells #[.int .i64 3, .int .i64 5, .int .i64 8, .int .i64 1, .int .i64 0] 3)) (v3.heap.size + 1) (by simp only [World.size_alloc]) _ _).drew) hG9 (by simp; omega))
             first
             | replace HB6 := Lib.hid (Blk.grown (((HB6.out).alloc _).alloc _) hG9 (by simp; omega))
             | skip
             replace H := Lib.hid ((H0.out.kept ((bthen (kFF v3 (.cells #[.int .i64 3, .int .i64 5, .int .i64 8, .int .i64 1, .int .i64 0] 3)) (kFF (World.alloc v3 (.cells #[.int .i64 3, .int .i64 5, .int .i64 8, .int .i64 1, .int .i64 0] 3)) (.cells #[.int .i64 0, .slice none 0 0] 36))).drew)).draw hR9 hG9)
             have hc0 : Blk v4 (g2) 36 #[.int .i64 now, .slice A l.length c] := H.out.blk 0 rfl
             have hc1 : Blk v4 (g2 + 1) 44 #[.bool on, .bool bad, .int .i64 t, .slice A2 ws.length c2, .slice A3 ns.length c3, .bool skip, .bool gone, .string inb] := H.out.blk 1 rfl
             clear hR9 hG9 S9 hk hk9)
          | (with_reducible show Calls _ _ _ (World.drew (World.alloc (World.alloc v3 (.cells #[.int .i64 0, .slice none 0 0] 36)) (.cells #[.int .i64 3, .int .i64 5, .int .i64 8, .int .i64 1, .int .i64 0] 3))) _
             go_at_call 15
             have S9 : Sl (fun x => [.int .i64 x]) 1 (World.drew (World.alloc (World.alloc v3 (.cells #[.int .i64 0, .slice none 0 0] 36)) (.cells #[.int .i64 3, .int .i64 5, .int .i64 8, .int .i64 1, .int .i64 0] 3))) (some ⟨v3.heap.size + 1, 0, none⟩) l9Nu := (Sl.litNA (World.alloc v3 (.cells #[.int .i64 0, .slice none 0 0] 36)) (v3.heap.size + 1) (by simp only [World.size_alloc]) 3 l9Nu #[.int .i64 3, .int .i64 5, .int .i64 8, .int .i64 1, .int .i64 0] rfl).below (kDB _)
             refine (num_any u0 RA rb rc g q1 _ l9Nu 5 _ (H0.out.kept ((bthen (kFF v3 (.cells #[.int .i64 0, .slice none 0 0] 36)) (kFF (World.alloc v3 (.cells #[.int .i64 0, .slice none 0 0] 36)) (.cells #[.int .i64 3, .int .i64 5, .int .i64 8, .int .i64 1, .int .i64 0] 3))).drew)).rd (by omega) (by decide) S9 (by intro b o h; simp at h; omega)).mono ?_
             rintro e v4 ⟨k, hk, rfl, hR9, hG9⟩
             have hk9 := l9Nu_le k hk
             obtain ⟨n, rfl⟩ : ∃ n : Nat, k = (n : Int) := ⟨k.toNat, by omega⟩
             have hn8 : n ≤ 8 := by omega
             have hs4 : v3.heap.size ≤ v4.heap.size := Nat.le_trans ((bthen (kFF v3 (.cells #[.int .i64 0, .slice none 0 0] 36)) (kFF (World.alloc v3 (.cells #[.int .i64 0, .slice none 0 0] 36)) (.cells #[.int .i64 3, .int .i64 5, .int .i64 8, .int .i64 1, .int .i64 0] 3))).drew).size hG9.size
             have HB5 := Lib.hid (Blk.grown (((Blk.newA v3 (v3.heap.size) rfl _ _).alloc _).drew) hG9 (by simp; omega))
             first
             | replace HB6 := Lib.hid (Blk.grown (((HB6.out).alloc _).alloc _) hG9 (by simp; omega))
             | skip
             replace H := Lib.hid ((H0.out.kept ((bthen (kFF v3 (.cells #[.int .i64 0, .slice none 0 0] 36)) (kFF (World.alloc v3 (.cells #[.int .i64 0, .slice none 0 0] 36)) (.cells #[.int .i64 3, .int .i64 5, .int .i64 8, .int .i64 1, .int .i64 0] 3))).drew)).draw hR9 hG9)
             have hc0 : Blk v4 (g2) 36 #[.int .i64 now, .slice A l.length c] := H.out.blk 0 rfl
             have hc1 : Blk v4 (g2 + 1) 44 #[.bool on, .bool bad, .int .i64 t, .slice A2 ws.length c2, .slice A3 ns.length c3, .bool skip, .bool gone, .string inb] := H.out.blk 1 rfl
             clear hR9 hG9 S9 hk hk9)
          | (with_reducible show Calls _ _ _ (World.drew (World.alloc (World.alloc v3 (.cells #[.int .i64 3, .int .i64 5, .int .i64 8, .int .i64 1, .int .i64 0] 3)) (.cells #[.bool false, .bool false, .int .i64 0, .slice none 0 0, .slice none 0 0, .bool false, .bool false, .string ⟨#[]⟩] 44))) _
             go_at_call 15
             have S9 : Sl (fun x => [.int .i64 x]) 1 (World.drew (World.alloc (World.alloc v3 (.cells #[.int .i64 3, .int .i64 5, .int .i64 8, .int .i64 1, .int .i64 0] 3)) (.cells #[.bool false, .bool false, .int .i64 0, .slice none 0 0, .slice none 0 0, .bool false, .bool false, .string ⟨#[]⟩] 44))) (some ⟨v3.heap.size, 0, none⟩) l9Nu := ((Sl.litNA v3 (v3.heap.size) rfl 3 l9Nu #[.int .i64 3, .int .i64 5, .int .i64 8, .int .i64 1, .int .i64 0] rfl).below (kFF (World.alloc v3 (.cells #[.int .i64 3, .int .i64 5, .int .i64 8, .int .i64 1, .int .i64 0] 3)) (.cells #[.bool false, .bool false, .int .i64 0, .slice none 0 0, .slice none 0 0, .bool false, .bool false, .string ⟨#[]⟩] 44))).below (kDB _)
             refine (num_any u0 RA rb rc g q1 _ l9Nu 5 _ (H0.out.kept ((bthen (kFF v3 (.cells #[.int .i64 3, .int .i64 5, .int .i64 8, .int .i64 1, .int .i64 0] 3)) (kFF (World.alloc v3 (.cells #[.int .i64 3, .int .i64 5, .int .i64 8, .int .i64 1, .int .i64 0] 3)) (.cells #[.bool false, .bool false, .int .i64 0, .slice none 0 0, .slice none 0 0, .bool false, .bool false, .string ⟨#[]⟩] 44))).drew)).rd (by omega) (by decide) S9 (by intro b o h; simp at h; omega)).mono ?_
             rintro e v4 ⟨k, hk, rfl, hR9, hG9⟩
             have hk9 := l9Nu_le k hk
             obtain ⟨n, rfl⟩ : ∃ n : Nat, k = (n : Int) := ⟨k.toNat, by omega⟩
             have hn8 : n ≤ 8 := by omega
             have hs4 : v3.heap.size ≤ v4.heap.size := Nat.le_trans ((bthen (kFF v3 (.cells #[.int .i64 3, .int .i64 5, .int .i64 8, .int .i64 1, .int .i64 0] 3)) (kFF (World.alloc v3 (.cells #[.int .i64 3, .int .i64 5, .int .i64 8, .int .i64 1, .int .i64 0] 3)) (.cells #[.bool false, .bool false, .int .i64 0, .slice none 0 0, .slice none 0 0, .bool false, .bool false, .string ⟨#[]⟩] 44))).drew).size hG9.size
             first
             | replace HB5 := Lib.hid (Blk.grown (((HB5.out).alloc _).alloc _) hG9 (by simp; omega))
             | skip
             have HB6 := Lib.hid (Blk.grown ((Blk.newA (World.alloc v3 (.cells #[.int .i64 3, .int .i64 5, .int .i64 8, .int .i64 1, .int .i64 0] 3)) (v3.heap.size + 1) (by simp only [World.size_alloc]) _ _).drew) hG9 (by simp; omega))
             replace H := Lib.hid ((H0.out.kept ((bthen (kFF v3 (.cells #[.int .i64 3, .int .i64 5, .int .i64 8, .int .i64 1, .int .i64 0] 3)) (kFF (World.alloc v3 (.cells #[.int .i64 3, .int .i64 5, .int .i64 8, .int .i64 1, .int .i64 0] 3)) (.cells #[.bool false, .bool false, .int .i64 0, .slice none 0 0, .slice none 0 0, .bool false, .bool false, .string ⟨#[]⟩] 44))).drew)).draw hR9 hG9)
             have hc0 : Blk v4 (g2) 36 #[.int .i64 now, .slice A l.length c] := H.out.blk 0 rfl
             have hc1 : Blk v4 (g2 + 1) 44 #[.bool on, .bool bad, .int .i64 t, .slice A2 ws.length c2, .slice A3 ns.length c3, .bool skip, .bool gone, .string inb] := H.out.blk 1 rfl
             clear hR9 hG9 S9 hk hk9)
          | (with_reducible show Calls _ _ _ (World.drew (World.alloc (World.alloc v3 (.cells #[.bool false, .bool false, .int .i64 0, .slice none 0 0, .slice none 0 0, .bool false, .bool false, .string ⟨#[]⟩] 44)) (.cells #[.int .i64 3, .int .i64 5, .int .i64 8, .int .i64 1, .int .i64 0] 3))) _
             go_at_call 15
             have S9 : Sl (fun x => [.int .i64 x]) 1 (World.drew (World.alloc (World.alloc v3 (.cells #[.bool false, .bool false, .int .i64 0, .slice none 0 0, .slice none 0 0, .bool false, .bool false, .string ⟨#[]⟩] 44)) (.cells #[.int .i64 3, .int .i64 5, .int .i64 8, .int .i64 1, .int .i64 0] 3))) (some ⟨v3.heap.size + 1, 0, none⟩) l9Nu := (Sl.litNA (World.alloc v3 (.cells #[.bool false, .bool false, .int .i64 0, .slice none 0 0, .slice none 0 0, .bool false, .bool false, .string ⟨#[]⟩] 44)) (v3.heap.size + 1) (by simp only [World.size_alloc]) 3 l9Nu #[.int .i64 3, .int .i64 5, .int .i64 8, .int .i64 1, .int .i64 0] rfl).below (kDB _)
             refine (num_any u0 RA rb rc g q1 _ l9Nu 5 _ (H0.out.kept ((bthen (kFF v3 (.cells #[.bool false, .bool false, .int .i64 0, .slice none 0 0, .slice none 0 0, .bool false, .bool false, .string ⟨#[]⟩] 44)) (kFF (World.alloc v3 (.cells #[.bool false, .bool false, .int .i64 0, .slice none 0 0, .slice none 0 0, .bool false, .bool false, .string ⟨#[]⟩] 44)) (.cells #[.int .i64 3, .int .i64 5, .int .i64 8, .int .i64 1, .int .i64 0] 3))).drew)).rd (by omega) (by decide) S9 (by intro b o h; simp at h; omega)).mono ?_
             rintro e v4 ⟨k, hk, rfl, hR9, hG9⟩
             have hk9 := l9Nu_le k hk
             obtain ⟨n, rfl⟩ : ∃ n : Nat, k = (n : Int) := ⟨k.toNat, by omega⟩
             have hn8 : n ≤ 8 := by omega
             have hs4 : v3.heap.size ≤ v4.heap.size := Nat.le_trans ((bthen (kFF v3 (.cells #[.bool false, .bool false, .int .i64 0, .slice none 0 0, .slice none 0 0, .bool false, .bool false, .string ⟨#[]⟩] 44)) (kFF (World.alloc v3 (.cells #[.bool false, .bool false, .int .i64 0, .slice none 0 0, .slice none 0 0, .bool false, .bool false, .string ⟨#[]⟩] 44)) (.cells #[.int .i64 3, .int .i64 5, .int .i64 8, .int .i64 1, .int .i64 0] 3))).drew).size hG9.size
             first
             | replace HB5 := Lib.hid (Blk.grown (((HB5.out).alloc _).alloc _) hG9 (by simp; omega))
             | skip
             have HB6 := Lib.hid (Blk.grown (((Blk.newA v3 (v3.heap.size) rfl _ _).alloc _).drew) hG9 (by simp; omega))
             replace H := Lib.hid ((H0.out.kept ((bthen (kFF v3 (.cells #[.bool false, .bool false, .int .i64 0, .slice none 0 0, .slice none 0 0, .bool false, .bool false, .string ⟨#[]⟩] 44)) (kFF (World.alloc v3 (.cells #[.bool false, .bool false, .int .i64 0, .slice none 0 0, .slice none 0 0, .bool false, .bool false, .string ⟨#[]⟩] 44)) (.cells #[.int .i64 3, .int .i64 5, .int .i64 8, .int .i64 1, .int .i64 0] 3))).drew)).draw hR9 hG9)
             have hc0 : Blk v4 (g2) 36 #[.int .i64 now, .slice A l.length c] := H.out.blk 0 rfl
             have hc1 : Blk v4 (g2 + 1) 44 #[.bool on, .bool bad, .int .i64 t, .slice A2 ws.length c2, .slice A3 ns.length c3, .bool skip, .bool gone, .string inb] := H.out.blk 1 rfl
             clear hR9 hG9 S9 hk hk9)
          | (with_reducible show Calls _ _ _ (World.drew (World.alloc (World.alloc (World.alloc v3 (.cells #[.int .i64 3, .int .i64 5, .int .i64 8, .int .i64 1, .int .i64 0] 3)) (.cells #[.int .i64 0, .slice none 0 0] 36)) (.cells #[.bool false, .bool false, .int .i64 0, .slice none 0 0, .slice none 0 0, .bool false, .bool false, .string ⟨#[]⟩] 44))) _
             go_at_call 15
             have S9 : Sl (fun x => [.int .i64 x]) 1 (World.drew (World.alloc (World.alloc (World.alloc v3 (.cells #[.int .i64 3, .int .i64 5, .int .i64 8, .int .i64 1, .int .i64 0] 3)) (.cells #[.int .i64 0, .slice none 0 0] 36)) (.cells #[.bool false, .bool false, .int .i64 0, .slice none 0 0, .slice none 0 0, .bool false, .bool false, .string ⟨#[]⟩] 44))) (some ⟨v3.heap.size, 0, none⟩) l9Nu := ((Sl.litNA v3 (v3.heap.size) rfl 3 l9Nu #[.int .i64 3, .int .i64 5, .int .i64 8, .int .i64 1, .int .i64 0] rfl).below (bthen (kFF (World.alloc v3 (.cells #[.int .i64 3, .int .i64 5, .int .i64 8, .int .i64 1, .int .i64 0] 3)) (.cells #[.int .i64 0, .slice none 0 0] 36)) (kFF (World.alloc (World.alloc v3 (.cells #[.int .i64 3, .int .i64 5, .int .i64 8, .int .i64 1, .int .i64 0] 3)) (.cells #[.int .i64 0, .slice none 0 0] 36)) (.cells #[.bool false, .bool false, .int .i64 0, .slice none 0 0, .slice none 0 0, .bool false, .bool false, .string ⟨#[]⟩] 44)))).below (kDB _)
             refine (num_any u0 RA rb rc g q1 _ l9Nu 5 _ (H0.out.kept ((bthen (bthen (kFF v3 (.cells #[.int .i64 3, .int .i64 5, .int .i64 8, .int .i64 1, .int .i64 0] 3)) (kFF (World.alloc v3 (.cells #[.int .i64 3, .int .i64 5, .int .i64 8, .int .i64 1, .int .i64 0] 3)) (.cells #[.int .i64 0, .slice none 0 0] 36))) (kFF (World.alloc (World.alloc v3 (.cells #[.int .i64 3, .int .i64 5, .int .i64 8, .int .i64 1, .int .i64 0] 3)) (.cells #[.int .i64 0, .slice none 0 0] 36)) (.cells #[.bool false, .bool false, .int .i64 0, .slice none 0 0, .slice none 0 0, .bool false, .bool false, .string ⟨#[]⟩] 44))).drew)).rd (by omega) (by decide) S9 (by intro b o h; simp at h; omega)).mono ?_
             rintro e v4 ⟨k, hk, rfl, hR9, hG9⟩
             have hk9 := l9Nu_le k hk
             obtain ⟨n, rfl⟩ : ∃ n : Nat, k = (n : Int) := ⟨k.toNat, by omega⟩
             have hn8 : n ≤ 8 := by omega
             have hs4 : v3.heap.size ≤ v4.heap.size := Nat.le_trans ((bthen (bthen (kFF v3 (.cells #[.int .i64 3, .int .i64 5, .int .i64 8, .int .i64 1, .int .i64 0] 3)) (kFF (World.alloc v3 (.cells #[.int .i64 3, .int .i64 5, .int .i64 8, .int .i64 1, .int .i64 0] 3)) (.cells #[.int .i64 0, .slice none 0 0] 36))) (kFF (World.alloc (World.alloc v3 (.cells #[.int .i64 3, .int .i64 5, .int .i64 8, .int .i64 1, .int .i64 0] 3)) (.cells #[.int .i64 0, .slice none 0 0] 36)) (.cells #[.bool false, .bool false, .int .i64 0, .slice none 0 0, .slice none 0 0, .bool false, .bool false, .string ⟨#[]⟩] 44))).drew).size hG9.size
             have HB5 := Lib.hid (Blk.grown (((Blk.newA (World.alloc v3 (.cells #[.int .i64 3, .int .i64 5, .int .i64 8, .int .i64 1, .int .i64 0] 3)) (v3.heap.size + 1) (by simp only [World.size_alloc]) _ _).alloc _).drew) hG9 (by simp; omega))
             have HB6 := Lib.hid (Blk.grown ((Blk.newA (World.alloc (World.alloc v3 (.cells #[.int .i64 3, .int .i64 5, .int .i64 8, .int .i64 1, .int .i64 0] 3)) (.cells #[.int .i64 0, .slice none 0 0] 36)) (v3.heap.size + 1 + 1) (by simp only [World.size_alloc]) _ _).drew) hG9 (by simp; omega))
             replace H := Lib.hid ((H0.out.kept ((bthen (bthen (kFF v3 (.cells #[.int .i64 3, .int .i64 5, .int .i64 8, .int .i64 1, .int .i64 0] 3)) (kFF (World.alloc v3 (.cells #[.int .i64 3, .int .i64 5, .int .i64 8, .int .i64 1, .int .i64 0] 3)) (.cells #[.int .i64 0, .slice none 0 0] 36))) (kFF (World.alloc (World.alloc v3 (.cells #[.int .i64 3, .int .i64 5, .int .i64 8, .int .i64 1, .int .i64 0] 3)) (.cells #[.int .i64 0, .slice none 0 0] 36)) (.cells #[.bool false, .bool false, .int .i64 0, .slice none 0 0, .slice none 0 0, .bool false, .bool false, .string ⟨#[]⟩] 44))).drew)).draw hR9 hG9)
             have hc0 : Blk v4 (g2) 36 #[.int .i64 now, .slice A l.length c] := H.out.blk 0 rfl
             have hc1 : Blk v4 (g2 + 1) 44 #[.bool on, .bool bad, .int .i64 t, .slice A2 ws.length c2, .slice A3 ns.length c3, .bool skip, .bool gone, .string inb] := H.out.blk 1 rfl
             clear hR9 hG9 S9 hk hk9)
          | (with_reducible show Calls _ _ _ (World.drew (World.alloc (World.alloc (World.alloc v3 (.cells #[.int .i64 0, .slice none 0 0] 36)) (.cells #[.int .i64 3, .int .i64 5, .int .i64 8, .int .i64 1, .int .i64 0] 3)) (.cells #[.bool false, .bool false, .int .i64 0, .slice none 0 0, .slice none 0 0, .bool false, .bool false, .string ⟨#[]⟩] 44))) _
             go_at_call 15
             have S9 : Sl (fun x => [.int .i64 x]) 1 (World.drew (World.alloc (World.alloc (World.alloc v3 (.cells #[.int .i64 0, .slice none 0 0] 36)) (.cells #[.int .i64 3, .int .i64 5, .int .i64 8, .int .i64 1, .int .i64 0] 3)) (.cells #[.bool false, .bool false, .int .i64 0, .slice none 0 0, .slice none 0 0, .bool false, .bool false, .string ⟨#[]⟩] 44))) (some ⟨v3.heap.size + 1, 0, none⟩) l9Nu := ((Sl.litNA (World.alloc v3 (.cells #[.int .i64 0, .slice none 0 0] 36)) (v3.heap.size + 1) (by simp only [World.size_alloc]) 3 l9Nu #[.int .i64 3, .int .i64 5, .int .i64 8, .int .i64 1, .int .i64 0] rfl).below (kFF (World.alloc (World.alloc v3 (.cells #[.int .i64 0, .slice none 0 0] 36)) (.cells #[.int .i64 3, .int .i64 5, .int .i64 8, .int .i64 1, .int .i64 0] 3)) (.cells #[.bool false, .bool false, .int .i64 0, .slice none 0 0, .slice none 0 0, .bool false, .bool false, .string ⟨#[]⟩] 44))).below (kDB _)
             refine (num_any u0 RA rb rc g q1 _ l9Nu 5 _ (H0.out.kept ((bthen (bthen (kFF v3 (.cells #[.int .i64 0, .slice none 0 0] 36)) (kFF (World.alloc v3 (.cells #[.int .i64 0, .slice none 0 0] 36)) (.cells #[.int .i64 3, .int .i64 5, .int .i64 8, .int .i64 1, .int .i64 0] 3))) (kFF (World.alloc (World.alloc v3 (.cells #[.int .i64 0, .slice none 0 0] 36)) (.cells #[.int .i64 3, .int .i64 5, .int .i64 8, .int .i64 1, .int .i64 0] 3)) (.cells #[.bool false, .bool false, .int .i64 0, .slice none 0 0, .slice none 0 0, .bool false, .bool false, .string ⟨#[]⟩] 44))).drew)).rd (by omega) (by decide) S9 (by intro b o h; simp at h; omega)).mono ?_
             rintro e v4 ⟨k, hk, rfl, hR9, hG9⟩
             have hk9 := l9Nu_le k hk
             obtain ⟨n, rfl⟩ : ∃ n : Nat, k = (n : Int) := ⟨k.toNat, by omega⟩
             have hn8 : n ≤ 8 := by omega
             have hs4 : v3.heap.size ≤ v4.heap.size := Nat.le_trans ((bthen (bthen (kFF v3 (.cells #[.int .i64 0, .slice none 0 0] 36)) (kFF (World.alloc v3 (.cells #[.int .i64 0, .slice none 0 0] 36)) (.cells #[.int .i64 3, .int .i64 5, .int .i64 8, .int .i64 1, .int .i64 0] 3))) (kFF (World.alloc (World.alloc v3 (.cells #[.int .i64 0, .slice none 0 0] 36)) (.cells #[.int .i64 3, .int .i64 5, .int .i64 8, .int .i64 1, .int .i64 0] 3)) (.cells #[.bool false, .bool false, .int .i64 0, .slice none 0 0, .slice none 0 0, .bool false, .bool false, .string ⟨#[]⟩] 44))).drew).size hG9.size
             have HB5 := Lib.hid (Blk.grown ((((Blk.newA v3 (v3.heap.size) rfl _ _).alloc _).alloc _).drew) hG9 (by simp; omega))
             have HB6 := Lib.hid (Blk.grown ((Blk.newA (World.alloc (World.alloc v3 (.cells #[.int .i64 0, .slice none 0 0] 36)) (.cells #[.int .i64 3, .int .i64 5, .int .i64 8, .int .i64 1, .int .i64 0] 3)) (v3.heap.size + 1 + 1) (by simp only [World.size_alloc]) _ _).drew) hG9 (by simp; omega))
             replace H := Lib.hid ((H0.out.kept ((bthen (bthen (kFF v3 (.cells #[.int .i64 0, .slice none 0 0] 36)) (kFF (World.alloc v3 (.cells #[.int .i64 0, .slice none 0 0] 36)) (.cells #[.int .i64 3, .int .i64 5, .int .i64 8, .int .i64 1, .int .i64 0] 3))) (kFF (World.alloc (World.alloc v3 (.cells #[.int .i64 0, .slice none 0 0] 36)) (.cells #[.int .i64 3, .int .i64 5, .int .i64 8, .int .i64 1, .int .i64 0] 3)) (.cells #[.bool false, .bool false, .int .i64 0, .slice none 0 0, .slice none 0 0, .bool false, .bool false, .string ⟨#[]⟩] 44))).drew)).draw hR9 hG9)
             have hc0 : Blk v4 (g2) 36 #[.int .i64 now, .slice A l.length c] := H.out.blk 0 rfl
             have hc1 : Blk v4 (g2 + 1) 44 #[.bool on, .bool bad, .int .i64 t, .slice A2 ws.length c2, .slice A3 ns.length c3, .bool skip, .bool gone, .string inb] := H.out.blk 1 rfl
             clear hR9 hG9 S9 hk hk9)
          | (with_reducible show Calls _ _ _ (World.drew (World.alloc (World.alloc (World.alloc v3 (.cells #[.int .i64 0, .slice none 0 0] 36)) (.cells #[.bool false, .bool false, .int .i64 0, .slice none 0 0, .slice none 0 0, .bool false, .bool false, .string ⟨#[]⟩] 44)) (.cells #[.int .i64 3, .int .i64 5, .int .i64 8, .int .i64 1, .int .i64 0] 3))) _
             go_at_call 15
             have S9 : Sl (fun x => [.int .i64 x]) 1 (World.drew (World.alloc (World.alloc (World.alloc v3 (.cells #[.int .i64 0, .slice none 0 0] 36)) (.cells #[.bool false, .bool false, .int .i64 0, .slice none 0 0, .slice none 0 0, .bool false, .bool false, .string ⟨#[]⟩] 44)) (.cells #[.int .i64 3, .int .i64 5, .int .i64 8, .int .i64 1, .int .i64 0] 3))) (some ⟨v3.heap.size + 1 + 1, 0, none⟩) l9Nu := (Sl.litNA (World.alloc (World.alloc v3 (.cells #[.int .i64 0, .slice none 0 0] 36)) (.cells #[.bool false, .bool false, .int .i64 0, .slice none 0 0, .slice none 0 0, .bool false, .bool false, .string ⟨#[]⟩] 44)) (v3.heap.size + 1 + 1) (by simp only [World.size_alloc]) 3 l9Nu #[.int .i64 3, .int .i64 5, .int .i64 8, .int .i64 1, .int .i64 0] rfl).below (kDB _)
             refine (num_any u0 RA rb rc g q1 _ l9Nu 5 _ (H0.out.kept ((bthen (bthen (kFF v3 (.cells #[.int .i64 0, .slice none 0 0] 36)) (kFF (World.alloc v3 (.cells #[.int .i64 0, .slice none 0 0] 36)) (.cells #[.bool false, .bool false, .int .i64 0, .slice none 0 0, .slice none 0 0, .bool false, .bool false, .string ⟨#[]⟩] 44))) (kFF (World.alloc (World.alloc v3 (.cells #[.int .i64 0, .slice none 0 0] 36)) (.cells #[.bool false, .bool false, .int .i64 0, .slice none 0 0, .slice none 0 0, .bool false, .bool false, .string ⟨#[]⟩] 44)) (.cells #[.int .i64 3, .int .i64 5, .int .i64 8, .int .i64 1, .int .i64 0] 3))).drew)).rd (by omega) (by decide) S9 (by intro b o h; simp at h; omega)).mono ?_
             rintro e v4 ⟨k, hk, rfl, hR9, hG9⟩
             have hk9 := l9Nu_le k hk
             obtain ⟨n, rfl⟩ : ∃ n : Nat, k = (n : Int) := ⟨k.toNat, by omega⟩
             have hn8 : n ≤ 8 := by omega
             have hs4 : v3.heap.size ≤ v4.heap.size := Nat.le_trans ((bthen (bthen (kFF v3 (.cells #[.int .i64 0, .slice none 0 0] 36)) (kFF (World.alloc v3 (.cells #[.int .i64 0, .slice none 0 0] 36)) (.cells #[.bool false, .bool false, .int .i64 0, .slice none 0 0, .slice none 0 0, .bool false, .bool false, .string ⟨#[]⟩] 44))) (kFF (World.alloc (World.alloc v3 (.cells #[.int .i64 0, .slice none 0 0] 36)) (.cells #[.bool false, .bool false, .int .i64 0, .slice none 0 0, .slice none 0 0, .bool false, .bool false, .string ⟨#[]⟩] 44)) (.cells #[.int .i64 3, .int .i64 5, .int .i64 8, .int .i64 1, .int .i64 0] 3))).drew).size hG9.size
             have HB5 := Lib.hid (Blk.grown ((((Blk.newA v3 (v3.heap.size) rfl _ _).alloc _).alloc _).drew) hG9 (by simp; omega))
             have HB6 := Lib.hid (Blk.grown (((Blk.newA (World.alloc v3 (.cells #[.int .i64 0, .slice none 0 0] 36)) (v3.heap.size + 1) (by simp only [World.size_alloc]) _ _).alloc _).drew) hG9 (by simp; omega))
             replace H := Lib.hid ((H0.out.kept ((bthen (bthen (kFF v3 (.cells #[.int .i64 0, .slice none 0 0] 36)) (kFF (World.alloc v3 (.cells #[.int .i64 0, .slice none 0 0] 36)) (.cells #[.bool false, .bool false, .int .i64 0, .slice none 0 0, .slice none 0 0, .bool false, .bool false, .string ⟨#[]⟩] 44))) (kFF (World.alloc (World.alloc v3 (.cells #[.int .i64 0, .slice none 0 0] 36)) (.cells #[.bool false, .bool false, .int .i64 0, .slice none 0 0, .slice none 0 0, .bool false, .bool false, .string ⟨#[]⟩] 44)) (.cells #[.int .i64 3, .int .i64 5, .int .i64 8, .int .i64 1, .int .i64 0] 3))).drew)).draw hR9 hG9)
             have hc0 : Blk v4 (g2) 36 #[.int .i64 now, .slice A l.length c] := H.out.blk 0 rfl
             have hc1 : Blk v4 (g2 + 1) 44 #[.bool on, .bool bad, .int .i64 t, .slice A2 ws.length c2, .slice A3 ns.length c3, .bool skip, .bool gone, .string inb] := H.out.blk 1 rfl
             clear hR9 hG9 S9 hk hk9)
          | (with_reducible show Calls _ _ _ (World.drew (World.alloc (World.alloc (World.alloc v3 (.cells #[.int .i64 3, .int .i64 5, .int .i64 8, .int .i64 1, .int .i64 0] 3)) (.cells #[.bool false, .bool false, .int .i64 0, .slice none 0 0, .slice none 0 0, .bool false, .bool false, .string ⟨#[]⟩] 44)) (.cells #[.int .i64 0, .slice none 0 0] 36))) _
             go_at_call 15
             have S9 : Sl (fun x => [.int .i64 x]) 1 (World.drew (World.alloc (World.alloc (World.alloc v3 (.cells #[.int .i64 3, .int .i64 5, .int .i64 8, .int .i64 1, .int .i64 0] 3)) (.cells #[.bool false, .bool false, .int .i64 0, .slice none 0 0, .slice none 0 0, .bool false, .bool false, .string ⟨#[]⟩] 44)) (.cells #[.int .i64 0, .slice none 0 0] 36))) (some ⟨v3.heap.size, 0, none⟩) l9Nu := ((Sl.litNA v3 (v3.heap.size) rfl 3 l9Nu #[.int .i64 3, .int .i64 5, .int .i64 8, .int .i64 1, .int .i64 0] rfl).below (bthen (kFF (World.alloc v3 (.cells #[.int .i64 3, .int .i64 5, .int .i64 8, .int .i64 1, .int .i64 0] 3)) (.cells #[.bool false, .bool false, .int .i64 0, .slice none 0 0, .slice none 0 0, .bool false, .bool false, .string ⟨#[]⟩] 44)) (kFF (World.alloc (World.alloc v3 (.cells #[.int .i64 3, .int .i64 5, .int .i64 8, .int .i64 1, .int .i64 0] 3)) (.cells #[.bool false, .bool false, .int .i64 0, .slice none 0 0, .slice none 0 0, .bool false, .bool false, .string ⟨#[]⟩] 44)) (.cells #[.int .i64 0, .slice none 0 0] 36)))).below (kDB _)
             refine (num_any u0 RA rb rc g q1 _ l9Nu 5 _ (H0.out.kept ((bthen (bthen (kFF v3 (.cells #[.int .i64 3, .int .i64 5, .int .i64 8, .int .i64 1, .int .i64 0] 3)) (kFF (World.alloc v3 (.cells #[.int .i64 3, .int .i64 5, .int .i64 8, .int .i64 1, .int .i64 0] 3)) (.cells #[.bool false, .bool false, .int .i64 0, .slice none 0 0, .slice none 0 0, .bool false, .bool false, .string ⟨#[]⟩] 44))) (kFF (World.alloc (World.alloc v3 (.cells #[.int .i64 3, .int .i64 5, .int .i64 8, .int .i64 1, .int .i64 0] 3)) (.cells #[.bool false, .bool false, .int .i64 0, .slice none 0 0, .slice none 0 0, .bool false, .bool false, .string ⟨#[]⟩] 44)) (.cells #[.int .i64 0, .slice none 0 0] 36))).drew)).rd (by omega) (by decide) S9 (by intro b o h; simp at h; omega)).mono ?_
             rintro e v4 ⟨k, hk, rfl, hR9, hG9⟩
             have hk9 := l9Nu_le k hk
             obtain ⟨n, rfl⟩ : ∃ n : Nat, k = (n : Int) := ⟨k.toNat, by omega⟩
             have hn8 : n ≤ 8 := by omega
             have hs4 : v3.heap.size ≤ v4.heap.size := Nat.le_trans ((bthen (bthen (kFF v3 (.cells #[.int .i64 3, .int .i64 5, .int .i64 8, .int .i64 1, .int .i64 0] 3)) (kFF (World.alloc v3 (.cells #[.int .i64 3, .int .i64 5, .int .i64 8, .int .i64 1, .int .i64 0] 3)) (.cells #[.bool false, .bool false, .int .i64 0, .slice none 0 0, .slice none 0 0, .bool false, .bool false, .string ⟨#[]⟩] 44))) (kFF (World.alloc (World.alloc v3 (.cells #[.int .i64 3, .int .i64 5, .int .i64 8, .int .i64 1, .int .i64 0] 3)) (.cells #[.bool false, .bool false, .int .i64 0, .slice none 0 0, .slice none 0 0, .bool false, .bool false, .string ⟨#[]⟩] 44)) (.cells #[.int .i64 0, .slice none 0 0] 36))).drew).size hG9.size
             have HB5 := Lib.hid (Blk.grown ((Blk.newA (World.alloc (World.alloc v3 (.cells #[.int .i64 3, .int .i64 5, .int .i64 8, .int .i64 1, .int .i64 0] 3)) (.cells #[.bool false, .bool false, .int .i64 0, .slice none 0 0, .slice none 0 0, .bool false, .bool false, .string ⟨#[]⟩] 44)) (v3.heap.size + 1 + 1) (by simp only [World.size_alloc]) _ _).drew) hG9 (by simp; omega))
             have HB6 := Lib.hid (Blk.grown (((Blk.newA (World.alloc v3 (.cells #[.int .i64 3, .int .i64 5, .int .i64 8, .int .i64 1, .int .i64 0] 3)) (v3.heap.size + 1) (by simp only [World.size_alloc]) _ _).alloc _).drew) hG9 (by simp; omega))
             replace H := Lib.hid ((H0.out.kept ((bthen (bthen (kFF v3 (.cells #[.int .i64 3, .int .i64 5, .int .i64 8, .int .i64 1, .int .i64 0] 3)) (kFF (World.alloc v3 (.cells #[.int .i64 3, .int .i64 5, .int .i64 8, .int .i64 1, .int .i64 0] 3)) (.cells #[.bool false, .bool false, .int .i64 0, .slice none 0 0, .slice none 0 0, .bool false, .bool false, .string ⟨#[]⟩] 44))) (kFF (World.alloc (World.alloc v3 (.cells #[.int .i64 3, .int .i64 5, .int .i64 8, .int .i64 1, .int .i64 0] 3)) (.cells #[.bool false, .bool false, .int .i64 0, .slice none 0 0, .slice none 0 0, .bool false, .bool false, .string ⟨#[]⟩] 44)) (.cells #[.int .i64 0, .slice none 0 0] 36))).drew)).draw hR9 hG9)
             have hc0 : Blk v4 (g2) 36 #[.int .i64 now, .slice A l.length c] := H.out.blk 0 rfl
             have hc1 : Blk v4 (g2 + 1) 44 #[.bool on, .bool bad, .int .i64 t, .slice A2 ws.length c2, .slice A3 ns.length c3, .bool skip, .bool gone, .string inb] := H.out.blk 1 rfl
             clear hR9 hG9 S9 hk hk9)
          | (with_reducible show Calls _ _ _ (World.drew (World.alloc (World.alloc (World.alloc v3 (.cells #[.bool false, .bool false, .int .i64 0, .slice none 0 0, .slice none 0 0, .bool false, .bool false, .string ⟨#[]⟩] 44)) (.cells #[.int .i64 3, .int .i64 5, .int .i64 8, .int .i64 1, .int .i64 0] 3)) (.cells #[.int .i64 0, .slice none 0 0] 36))) _
             go_at_call 15
             have S9 : Sl (fun x => [.int .i64 x]) 1 (World.drew (World.alloc (World.alloc (World.alloc v3 (.cells #[.bool false, .bool false, .int .i64 0, .slice none 0 0, .slice none 0 0, .bool false, .bool false, .string ⟨#[]⟩] 44)) (.cells #[.int .i64 3, .int .i64 5, .int .i64 8, .int .i64 1, .int .i64 0] 3)) (.cells #[.int .i64 0, .slice none 0 0] 36))) (some ⟨v3.heap.size + 1, 0, none⟩) l9Nu := ((Sl.litNA (World.alloc v3 (.cells #[.bool false, .bool false, .int .i64 0, .slice none 0 0, .slice none 0 0, .bool false, .bool false, .string ⟨#[]⟩] 44)) (v3.heap.size + 1) (by simp only [World.size_alloc]) 3 l9Nu #[.int .i64 3, .int .i64 5, .int .i64 8, .int .i64 1, .int .i64 0] rfl).below (kFF (World.alloc (World.alloc v3 (.cells #[.bool false, .bool false, .int .i64 0, .slice none 0 0, .slice none 0 0, .bool false, .bool false, .string ⟨#[]⟩] 44)) (.cells #[.int .i64 3, .int .i64 5, .int .i64 8, .int .i64 1, .int .i64 0] 3)) (.cells #[.int .i64 0, .slice none 0 0] 36))).below (kDB _)
             refine (num_any u0 RA rb rc g q1 _ l9Nu 5 _ (H0.out.kept ((bthen (bthen (kFF v3 (.cells #[.bool false, .bool false, .int .i64 0, .slice none 0 0, .slice none 0 0, .bool false, .bool false, .string ⟨#[]⟩] 44)) (kFF (World.alloc v3 (.cells #[.bool false, .bool false, .int .i64 0, .slice none 0 0, .slice none 0 0, .bool false, .bool false, .string ⟨#[]⟩] 44)) (.cells #[.int .i64 3, .int .i64 5, .int .i64 8, .int .i64 1, .int .i64 0] 3))) (kFF (World.alloc (World.alloc v3 (.cells #[.bool false, .bool false, .int .i64 0, .slice none 0 0, .slice none 0 0, .bool false, .bool false, .string ⟨#[]⟩] 44)) (.cells #[.int .i64 3, .int .i64 5, .int .i64 8, .int .i64 1, .int .i64 0] 3)) (.cells #[.int .i64 0, .slice none 0 0] 36))).drew)).rd (by omega) (by decide) S9 (by intro b o h; simp at h; omega)).mono ?_
             rintro e v4 ⟨k, hk, rfl, hR9, hG9⟩
             have hk9 := l9Nu_le k hk
             obtain ⟨n, rfl⟩ : ∃ n : Nat, k = (n : Int) := ⟨k.toNat, by omega⟩
             have hn8 : n ≤ 8 := by omega
             have hs4 : v3.heap.size ≤ v4.heap.size := Nat.le_trans ((bthen (bthen (kFF v3 (.cells #[.bool false, .bool false, .int .i64 0, .slice none 0 0, .slice none 0 0, .bool false, .bool false, .string ⟨#[]⟩] 44)) (kFF (World.alloc v3 (.cells #[.bool false, .bool false, .int .i64 0, .slice none 0 0, .slice none 0 0, .bool false, .bool false, .string ⟨#[]⟩] 44)) (.cells #[.int .i64 3, .int .i64 5, .int .i64 8, .int .i64 1, .int .i64 0] 3))) (kFF (World.alloc (World.alloc v3 (.cells #[.bool false, .bool false, .int .i64 0, .slice none 0 0, .slice none 0 0, .bool false, .bool false, .string ⟨#[]⟩] 44)) (.cells #[.int .i64 3, .int .i64 5, .int .i64 8, .int .i64 1, .int .i64 0] 3)) (.cells #[.int .i64 0, .slice none 0 0] 36))).drew).size hG9.size
             have HB5 := Lib.hid (Blk.grown ((Blk.newA (World.alloc (World.alloc v3 (.cells #[.bool false, .bool false, .int .i64 0, .slice none 0 0, .slice none 0 0, .bool false, .bool false, .string ⟨#[]⟩] 44)) (.cells #[.int .i64 3, .int .i64 5, .int .i64 8, .int .i64 1, .int .i64 0] 3)) (v3.heap.size + 1 + 1) (by simp only [World.size_alloc]) _ _).drew) hG9 (by simp; omega))
             have HB6 := Lib.hid (Blk.grown ((((Blk.newA v3 (v3.heap.size) rfl _ _).alloc _).alloc _).drew) hG9 (by simp; omega))
             replace H := Lib.hid ((H0.out.kept ((bthen (bthen (kFF v3 (.cells #[.bool false, .bool false, .int .i64 0, .slice none 0 0, .slice none 0 0, .bool false, .bool false, .string ⟨#[]⟩] 44)) (kFF (World.alloc v3 (.cells #[.bool false, .bool false, .int .i64 0, .slice none 0 0, .slice none 0 0, .bool false, .bool false, .string ⟨#[]⟩] 44)) (.cells #[.int .i64 3, .int .i64 5, .int .i64 8, .int .i64 1, .int .i64 0] 3))) (kFF (World.alloc (World.alloc v3 (.cells #[.bool false, .bool false, .int .i64 0, .slice none 0 0, .slice none 0 0, .bool false, .bool false, .string ⟨#[]⟩] 44)) (.cells #[.int .i64 3, .int .i64 5, .int .i64 8, .int .i64 1, .int .i64 0] 3)) (.cells #[.int .i64 0, .slice none 0 0] 36))).drew)).draw hR9 hG9)
             have hc0 : Blk v4 (g2) 36 #[.int .i64 now, .slice A l.length c] := H.out.blk 0 rfl
             have hc1 : Blk v4 (g2 + 1) 44 #[.bool on, .bool bad, .int .i64 t, .slice A2 ws.length c2, .slice A3 ns.length c3, .bool skip, .bool gone, .string inb] := H.out.blk 1 rfl
             clear hR9 hG9 S9 hk hk9)
          | (with_reducible show Calls _ _ _ (World.drew (World.alloc (World.alloc (World.alloc v3 (.cells #[.bool false, .bool false, .int .i64 0, .slice none 0 0, .slice none 0 0, .bool false, .bool false, .string ⟨#[]⟩] 44)) (.cells #[.int .i64 0, .slice none 0 0] 36)) (.cells #[.int .i64 3, .int .i64 5, .int .i64 8, .int .i64 1, .int .i64 0] 3))) _
             go_at_call 15
             have S9 : Sl (fun x => [.int .i64 x]) 1 (World.drew (World.alloc (World.alloc (World.alloc v3 (.cells #[.bool false, .bool false, .int .i64 0, .slice none 0 0, .slice none 0 0, .bool false, .bool false, .string ⟨#[]⟩] 44)) (.cells #[.int .i64 0, .slice none 0 0] 36)) (.cells #[.int .i64 3, .int .i64 5, .int .i64 8, .int .i64 1, .int .i64 0] 3))) (some ⟨v3.heap.size + 1 + 1, 0, none⟩) l9Nu := (Sl.litNA (World.alloc (World.alloc v3 (.cells #[.bool false, .bool false, .int .i64 0, .slice none 0 0, .slice none 0 0, .bool false, .bool false, .string ⟨#[]⟩] 44)) (.cells #[.int .i64 0, .slice none 0 0] 36)) (v3.heap.size + 1 + 1) (by simp only [World.size_alloc]) 3 l9Nu #[.int .i64 3, .int .i64 5, .int .i64 8, .int .i64 1, .int .i64 0] rfl).below (kDB _)
             refine (num_any u0 RA rb rc g q1 _ l9Nu 5 _ (H0.out.kept ((bthen (bthen (kFF v3 (.cells #[.bool false, .bool false, .int .i64 0, .slice none 0 0, .slice none 0 0, .bool false, .bool false, .string ⟨#[]⟩] 44)) (kFF (World.alloc v3 (.cells #[.bool false, .bool false, .int .i64 0, .slice none 0 0, .slice none 0 0, .bool false, .bool false, .string ⟨#[]⟩] 44)) (.cells #[.int .i64 0, .slice none 0 0] 36))) (kFF (World.alloc (World.alloc v3 (.cells #[.bool false, .bool false, .int .i64 0, .slice none 0 0, .slice none 0 0, .bool false, .bool false, .string ⟨#[]⟩] 44)) (.cells #[.int .i64 0, .slice none 0 0] 36)) (.cells #[.int .i64 3, .int .i64 5, .int .i64 8, .int .i64 1, .int .i64 0] 3))).drew)).rd (by omega) (by decide) S9 (by intro b o h; simp at h; omega)).mono ?_
             rintro e v4 ⟨k, hk, rfl, hR9, hG9⟩
             have hk9 := l9Nu_le k hk
             obtain ⟨n, rfl⟩ : ∃ n : Nat, k = (n : Int) := ⟨k.toNat, by omega⟩
             have hn8 : n ≤ 8 := by omega
             have hs4 : v3.heap.size ≤ v4.heap.size := Nat.le_trans ((bthen (bthen (kFF v3 (.cells #[.bool false, .bool false, .int .i64 0, .slice none 0 0, .slice none 0 0, .bool false, .bool false, .string ⟨#[]⟩] 44)) (kFF (World.alloc v3 (.cells #[.bool false, .bool false, .int .i64 0, .slice none 0 0, .slice none 0 0, .bool false, .bool false, .string ⟨#[]⟩] 44)) (.cells #[.int .i64 0, .slice none 0 0] 36))) (kFF (World.alloc (World.alloc v3 (.cells #[.bool false, .bool false, .int .i64 0, .slice none 0 0, .slice none 0 0, .bool false, .bool false, .string ⟨#[]⟩] 44)) (.cells #[.int .i64 0, .slice none 0 0] 36)) (.cells #[.int .i64 3, .int .i64 5, .int .i64 8, .int .i64 1, .int .i64 0] 3))).drew).size hG9.size
             have HB5 := Lib.hid (Blk.grown (((Blk.newA (World.alloc v3 (.cells #[.bool false, .bool false, .int .i64 0, .slice none 0 0, .slice none 0 0, .bool false, .bool false, .string ⟨#[]⟩] 44)) (v3.heap.size + 1) (by simp only [World.size_alloc]) _ _).alloc _).drew) hG9 (by simp; omega))
             have HB6 := Lib.hid (Blk.grown ((((Blk.newA v3 (v3.heap.size) rfl _ _).alloc _).alloc _).drew) hG9 (by simp; omega))
             replace H := Lib.hid ((H0.out.kept ((bthen (bthen (kFF v3 (.cells #[.bool false, .bool false, .int .i64 0, .slice none 0 0, .slice none 0 0, .bool false, .bool false, .string ⟨#[]⟩] 44)) (kFF (World.alloc v3 (.cells #[.bool false, .bool false, .int .i64 0, .slice none 0 0, .slice none 0 0, .bool false, .bool false, .string ⟨#[]⟩] 44)) (.cells #[.int .i64 0, .slice none 0 0] 36))) (kFF (World.alloc (World.alloc v3 (.cells #[.bool false, .bool false, .int .i64 0, .slice none 0 0, .slice none 0 0, .bool false, .bool false, .string ⟨#[]⟩] 44)) (.cells #[.int .i64 0, .slice none 0 0] 36)) (.cells #[.int .i64 3, .int .i64 5, .int .i64 8, .int .i64 1, .int .i64 0] 3))).drew)).draw hR9 hG9)
             have hc0 : Blk v4 (g2) 36 #[.int .i64 now, .slice A l.length c] := H.out.blk 0 rfl
             have hc1 : Blk v4 (g2 + 1) 44 #[.bool on, .bool bad, .int .i64 t, .slice A2 ws.length c2, .slice A3 ns.length c3, .bool skip, .bool gone, .string inb] := H.out.blk 1 rfl
             clear hR9 hG9 S9 hk hk9)
          | (with_reducible show Calls _ _ _ v4 _
             go_at_call 14
             refine (l6List_any u0 RA rb rc g (q1 + 1) now A l c on bad t A2 ws c2 A3 ns c3 skip gone inb n _ H.out.rd (by omega) (H.out.get 0 rfl) (H.out.get 1 rfl) (H.out.get 2 rfl) hn8).mono ?_
             rintro e v5 ⟨A4, L, c4, q2, rfl, hLN, _, _, hq2, hR9, hG9⟩
             have hs5 : v4.heap.size ≤ v5.heap.size := hG9.size
             first
             | replace HB5 := Lib.hid (Blk.grown (HB5.out) hG9 (by simp; omega))
             | skip
             first
             | replace HB6 := Lib.hid (Blk.grown (HB6.out) hG9 (by simp; omega))
             | skip
             have HLN := Lib.hid hLN
             replace H := Lib.hid (H.out.draw hR9 hG9)
             have hc0 : Blk v5 (g2) 36 #[.int .i64 now, .slice A l.length c] := H.out.blk 0 rfl
             have hc1 : Blk v5 (g2 + 1) 44 #[.bool on, .bool bad, .int .i64 t, .slice A2 ws.length c2, .slice A3 ns.length c3, .bool skip, .bool gone, .string inb] := H.out.blk 1 rfl
             clear hR9 hG9 hLN)
          | (with_reducible show Calls _ _ _ v5 _
             go_at_call 13
             refine (l6All_any now A l c on bad t A2 ws c2 A3 ns c3 skip gone inb A4 L c4 _ (H.out.get 0 rfl) (H.out.get 1 rfl) (H.out.get 2 rfl) HLN.out.1.sl HLN.out.2.1 HLN.out.2.2).mono ?_
             rintro e v6 ⟨nowu, Au, lu, cu, onu, badu, tu, A2u, wsu, c2u, A3u, nsu, c3u, skipu, goneu, inbu, A5, L5, c5, rfl, _, _, _, hL5, hc5, hm5, hb6⟩
             have hs6 : v5.heap.size ≤ v6.heap.size := hb6.size
             first
             | replace HB5 := Lib.hid (Blk.kept (HB5.out) hb6)
             | skip
             first
             | replace HB6 := Lib.hid (Blk.kept (HB6.out) hb6)
             | skip
             first
             | (have hy5_0 : v6.cell? ⟨_, 0, none⟩ = some (.int .i64 0) := HB5.out.cell 0; have hy5_1 : v6.cell? ⟨_, 1, none⟩ = some (.slice none 0 0) := HB5.out.cell 1; have hz5 := fun j => HB5.out.frozen j; have hw5 := HB5.out.lt)
             | skip
             first
             | (have hy6_0 : v6.cell? ⟨_, 0, none⟩ = some (.bool false) := HB6.out.cell 0; have hy6_1 : v6.cell? ⟨_, 1, none⟩ = some (.bool false) := HB6.out.cell 1; have hy6_2 : v6.cell? ⟨_, 2, none⟩ = some (.int .i64 0) := HB6.out.cell 2; have hy6_3 : v6.cell? ⟨_, 3, none⟩ = some (.slice none 0 0) := HB6.out.cell 3; have hy6_4 : v6.cell? ⟨_, 4, none⟩ = some (.slice none 0 0) := HB6.out.cell 4; have hy6_5 : v6.cell? ⟨_, 5, none⟩ = some (.bool false) := HB6.out.cell 5; have hy6_6 : v6.cell? ⟨_, 6, none⟩ = some (.bool false) := HB6.out.cell 6; have hy6_7 : v6.cell? ⟨_, 7, none⟩ = some (.string ⟨#[]⟩) := HB6.out.cell 7; have hz6 := fun j => HB6.out.frozen j; have hw6 := HB6.out.lt)
             | skip
             first
             | (have hne56 := blk_ne HB5.out HB6.out (by decide); have hne65 := Ne.symm hne56)
             | skip
             replace H := Lib.hid (SD.add (H.out.kept hb6) (fun W => LN W A5 L5 2000) LN.c hL5)
             have hc0 : Blk v6 (g2) 36 #[.int .i64 now, .slice A l.length c] := H.out.blk 0 rfl
             have hc1 : Blk v6 (g2 + 1) 44 #[.bool on, .bool bad, .int .i64 t, .slice A2 ws.length c2, .slice A3 ns.length c3, .bool skip, .bool gone, .string inb] := H.out.blk 1 rfl
             clear hb6 hL5)
          | (with_reducible show Calls _ _ _ (World.alloc v4 (.cells #[.int .i64 0, .slice none 0 0] 36)) _
             go_at_call 14
             refine (l6List_any u0 RA rb rc g (q1 + 1) now A l c on bad t A2 ws c2 A3 ns c3 skip gone inb n _ (H.out.kept (kFF v4 (.cells #[.int .i64 0, .slice none 0 0] 36))).rd (by omega) ((H.out.kept (kFF v4 (.cells #[.int .i64 0, .slice none 0 0] 36))).get 0 rfl) ((H.out.kept (kFF v4 (.cells #[.int .i64 0, .slice none 0 0] 36))).get 1 rfl) ((H.out.kept (kFF v4 (.cells #[.int .i64 0, .slice none 0 0] 36))).get 2 rfl) hn8).mono ?_
             rintro e v5 ⟨A4, L, c4, q2, rfl, hLN, _, _, hq2, hR9, hG9⟩
             have hs5 : v4.heap.size ≤ v5.heap.size := Nat.le_trans (kFF v4 (.cells #[.int .i64 0, .slice none 0 0] 36)).size hG9.size
             have HB5 := Lib.hid (Blk.grown (Blk.newA v4 (v4.heap.size) rfl _ _) hG9 (by simp; omega))
             first
             | replace HB6 := Lib.hid (Blk.grown ((HB6.out).alloc _) hG9 (by simp; omega))
             | skip
             have HLN := Lib.hid hLN
             replace H := Lib.hid ((H.out.kept (kFF v4 (.cells #[.int .i64 0, .slice none 0 0] 36))).draw hR9 hG9)
             have hc0 : Blk v5 (g2) 36 #[.int .i64 now, .slice A l.length c] := H.out.blk 0 rfl
             have hc1 : Blk v5 (g2 + 1) 44 #[.bool on, .bool bad, .int .i64 t, .slice A2 ws.length c2, .slice A3 ns.length c3, .bool skip, .bool gone, .string inb] := H.out.blk 1 rfl
             clear hR9 hG9 hLN)
          | (with_reducible show Calls _ _ _ (World.alloc v5 (.cells #[.int .i64 0, .slice none 0 0] 36)) _
             go_at_call 13
             refine (l6All_any now A l c on bad t A2 ws c2 A3 ns c3 skip gone inb A4 L c4 _ ((H.out.kept (kFF v5 (.cells #[.int .i64 0, .slice none 0 0] 36))).get 0 rfl) ((H.out.kept (kFF v5 (.cells #[.int .i64 0, .slice none 0 0] 36))).get 1 rfl) ((H.out.kept (kFF v5 (.cells #[.int .i64 0, .slice none 0 0] 36))).get 2 rfl) (LN.c _ _ (Kp.below (kFF v5 (.cells #[.int .i64 0, .slice none 0 0] 36))) HLN.out).1.sl HLN.out.2.1 HLN.out.2.2).mono ?_
             rintro e v6 ⟨nowu, Au, lu, cu, onu, badu, tu, A2u, wsu, c2u, A3u, nsu, c3u, skipu, goneu, inbu, A5, L5, c5, rfl, _, _, _, hL5, hc5, hm5, hb6⟩
             have hs6 : v5.heap.size ≤ v6.heap.size := Nat.le_trans (kFF v5 (.cells #[.int .i64 0, .slice none 0 0] 36)).size hb6.size
             have HB5 := Lib.hid (Blk.kept (Blk.newA v5 (v5.heap.size) rfl _ _) hb6)
             first
             | replace HB6 := Lib.hid (Blk.kept ((HB6.out).alloc _) hb6)
             | skip
             first
             | (have hy5_0 : v6.cell? ⟨_, 0, none⟩ = some (.int .i64 0) := HB5.out.cell 0; have hy5_1 : v6.cell? ⟨_, 1, none⟩ = some (.slice none 0 0) := HB5.out.cell 1; have hz5 := fun j => HB5.out.frozen j; have hw5 := HB5.out.lt)
             | skip
             first
             | (have hy6_0 : v6.cell? ⟨_, 0, none⟩ = some (.bool false) := HB6.out.cell 0; have hy6_1 : v6.cell? ⟨_, 1, none⟩ = some (.bool false) := HB6.out.cell 1; have hy6_2 : v6.cell? ⟨_, 2, none⟩ = some (.int .i64 0) := HB6.out.cell 2; have hy6_3 : v6.cell? ⟨_, 3, none⟩ = some (.slice none 0 0) := HB6.out.cell 3; have hy6_4 : v6.cell? ⟨_, 4, none⟩ = some (.slice none 0 0) := HB6.out.cell 4; have hy6_5 : v6.cell? ⟨_, 5, none⟩ = some (.bool false) := HB6.out.cell 5; have hy6_6 : v6.cell? ⟨_, 6, none⟩ = some (.bool false) := HB6.out.cell 6; have hy6_7 : v6.cell? ⟨_, 7, none⟩ = some (.string ⟨#[]⟩) := HB6.out.cell 7; have hz6 := fun j => HB6.out.frozen j; have hw6 := HB6.out.lt)
             | skip
             first
             | (have hne56 := blk_ne HB5.out HB6.out (by decide); have hne65 := Ne.symm hne56)
             | skip
             replace H := Lib.hid (SD.add ((H.out.kept (kFF v5 (.cells #[.int .i64 0, .slice none 0 0] 36))).kept hb6) (fun W => LN W A5 L5 2000) LN.c hL5)
             have hc0 : Blk v6 (g2) 36 #[.int .i64 now, .slice A l.length c] := H.out.blk 0 rfl
             have hc1 : Blk v6 (g2 + 1) 44 #[.bool on, .bool bad, .int .i64 t, .slice A2 ws.length c2, .slice A3 ns.length c3, .bool skip, .bool gone, .string inb] := H.out.blk 1 rfl
             clear hb6 hL5)
          | (with_reducible show Calls _ _ _ (World.alloc v4 (.cells #[.bool false, .bool false, .int .i64 0, .slice none 0 0, .slice none 0 0, .bool false, .bool false, .string ⟨#[]⟩] 44)) _
             go_at_call 14
             refine (l6List_any u0 RA rb rc g (q1 + 1) now A l c on bad t A2 ws c2 A3 ns c3 skip gone inb n _ (H.out.kept (kFF v4 (.cells #[.bool false, .bool false, .int .i64 0, .slice none 0 0, .slice none 0 0, .bool false, .bool false, .string ⟨#[]⟩] 44))).rd (by omega) ((H.out.kept (kFF v4 (.cells #[.bool false, .bool false, .int .i64 0, .slice none 0 0, .slice none 0 0, .bool false, .bool false, .string ⟨#[]⟩] 44))).get 0 rfl) ((H.out.kept (kFF v4 (.cells #[.bool false, .bool false, .int .i64 0, .slice none 0 0, .slice none 0 0, .bool false, .bool false, .string ⟨#[]⟩] 44))).get 1 rfl) ((H.out.kept (kFF v4 (.cells #[.bool false, .bool false, .int .i64 0, .slice none 0 0, .slice none 0 0, .bool false, .bool false, .string ⟨#[]⟩] 44))).get 2 rfl) hn8).mono ?_
             rintro e v5 ⟨A4, L, c4, q2, rfl, hLN, _, _, hq2, hR9, hG9⟩
             have hs5 : v4.heap.size ≤ v5.heap.size := Nat.le_trans (kFF v4 (.cells #[.bool false, .bool false, .int .i64 0, .slice none 0 0, .slice none 0 0, .bool false, .bool false, .string ⟨#[]⟩] 44)).size hG9.size
             first
             | replace HB5 := Lib.hid (Blk.grown ((HB5.out).alloc _) hG9 (by simp; omega))
             | skip
             have HB6 := Lib.hid (Blk.grown (Blk.newA v4 (v4.heap.size) rfl _ _) hG9 (by simp; omega))
             have HLN := Lib.hid hLN
             replace H := Lib.hid ((H.out.kept (kFF v4 (.cells #[.bool false, .bool false, .int .i64 0, .slice none 0 0, .slice none 0 0, .bool false, .bool false, .string ⟨#[]⟩] 44))).draw hR9 hG9)
             have hc0 : Blk v5 (g2) 36 #[.int .i64 now, .slice A l.length c] := H.out.blk 0 rfl
             have hc1 : Blk v5 (g2 + 1) 44 #[.bool on, .bool bad, .int .i64 t, .slice A2 ws.length c2, .slice A3 ns.length c3, .bool skip, .bool gone, .string inb] := H.out.blk 1 rfl
             clear hR9 hG9 hLN)
          | (with_reducible show Calls _ _ _ (World.alloc v5 (.cells #[.bool false, .bool false, .int .i64 0, .slice none 0 0, .slice none 0 0, .bool false, .bool false, .string ⟨#[]⟩] 44)) _
             go_at_call 13
             refine (l6All_any now A l c on bad t A2 ws c2 A3 ns c3 skip gone inb A4 L c4 _ ((H.out.kept (kFF v5 (.cells #[.bool false, .bool false, .int .i64 0, .slice none 0 0, .slice none 0 0, .bool false, .bool false, .string ⟨#[]⟩] 44))).get 0 rfl) ((H.out.kept (kFF v5 (.cells #[.bool false, .bool false, .int .i64 0, .slice none 0 0, .slice none 0 0, .bool false, .bool false, .string ⟨#[]⟩] 44))).get 1 rfl) ((H.out.kept (kFF v5 (.cells #[.bool false, .bool false, .int .i64 0, .slice none 0 0, .slice none 0 0, .bool false, .bool false, .string ⟨#[]⟩] 44))).get 2 rfl) (LN.c _ _ (Kp.below (kFF v5 (.cells #[.bool false, .bool false, .int .i64 0, .slice none 0 0, .slice none 0 0, .bool false, .bool false, .string ⟨#[]⟩] 44))) HLN.out).1.sl HLN.out.2.1 HLN.out.2.2).mono ?_
             rintro e v6 ⟨nowu, Au, lu, cu, onu, badu, tu, A2u, wsu, c2u, A3u, nsu, c3u, skipu, goneu, inbu, A5, L5, c5, rfl, _, _, _, hL5, hc5, hm5, hb6⟩
             have hs6 : v5.heap.size ≤ v6.heap.size := Nat.le_trans (kFF v5 (.cells #[.bool false, .bool false, .int .i64 0, .slice none 0 0, .slice none 0 0, .bool false, .bool false, .string ⟨#[]⟩] 44)).size hb6.size
             first
             | replace HB5 := Lib.hid (Blk.kept ((HB5.out).alloc _) hb6)
             | skip
             have HB6 := Lib.hid (Blk.kept (Blk.newA v5 (v5.heap.size) rfl _ _) hb6)
             first
             | (have hy5_0 : v6.cell? ⟨_, 0, none⟩ = some (.int .i64 0) := HB5.out.cell 0; have hy5_1 : v6.cell? ⟨_, 1, none⟩ = some (.slice none 0 0) := HB5.out.cell 1; have hz5 := fun j => HB5.out.frozen j; have hw5 := HB5.out.lt)
             | skip
             first
             | (have hy6_0 : v6.cell? ⟨_, 0, none⟩ = some (.bool false) := HB6.out.cell 0; have hy6_1 : v6.cell? ⟨_, 1, none⟩ = some (.bool false) := HB6.out.cell 1; have hy6_2 : v6.cell? ⟨_, 2, none⟩ = some (.int .i64 0) := HB6.out.cell 2; have hy6_3 : v6.cell? ⟨_, 3, none⟩ = some (.slice none 0 0) := HB6.out.cell 3; have hy6_4 : v6.cell? ⟨_, 4, none⟩ = some (.slice none 0 0) := HB6.out.cell 4; have hy6_5 : v6.cell? ⟨_, 5, none⟩ = some (.bool false) := HB6.out.cell 5; have hy6_6 : v6.cell? ⟨_, 6, none⟩ = some (.bool false) := HB6.out.cell 6; have hy6_7 : v6.cell? ⟨_, 7, none⟩ = some (.string ⟨#[]⟩) := HB6.out.cell 7; have hz6 := fun j => HB6.out.frozen j; have hw6 := HB6.out.lt)
             | skip
             first
             | (have hne56 := blk_ne HB5.out HB6.out (by decide); have hne65 := Ne.symm hne56)
             | skip
             replace H := Lib.hid (SD.add ((H.out.kept (kFF v5 (.cells #[.bool false, .bool false, .int .i64 0, .slice none 0 0, .slice none 0 0, .bool false, .bool false, .string ⟨#[]⟩] 44))).kept hb6) (fun W => LN W A5 L5 2000) LN.c hL5)
             have hc0 : Blk v6 (g2) 36 #[.int .i64 now, .slice A l.length c] := H.out.blk 0 rfl
             have hc1 : Blk v6 (g2 + 1) 44 #[.bool on, .bool bad, .int .i64 t, .slice A2 ws.length c2, .slice A3 ns.length c3, .bool skip, .bool gone, .string inb] := H.out.blk 1 rfl
             clear hb6 hL5)
          | (with_reducible show Calls _ _ _ (World.alloc (World.alloc v4 (.cells #[.int .i64 0, .slice none 0 0] 36)) (.cells #[.bool false, .bool false, .int .i64 0, .slice none 0 0, .slice none 0 0, .bool false, .bool false, .string ⟨#[]⟩] 44)) _
             go_at_call 14
             refine (l6List_any u0 RA rb rc g (q1 + 1) now A l c on bad t A2 ws c2 A3 ns c3 skip gone inb n _ (H.out.kept (bthen (kFF v4 (.cells #[.int .i64 0, .slice none 0 0] 36)) (kFF (World.alloc v4 (.cells #[.int .i64 0, .slice none 0 0] 36)) (.cells #[.bool false, .bool false, .int .i64 0, .slice none 0 0, .slice none 0 0, .bool false, .bool false, .string ⟨#[]⟩] 44)))).rd (by omega) ((H.out.kept (bthen (kFF v4 (.cells #[.int .i64 0, .slice none 0 0] 36)) (kFF (World.alloc v4 (.cells #[.int .i64 0, .slice none 0 0] 36)) (.cells #[.bool false, .bool false, .int .i64 0, .slice none 0 0, .slice none 0 0, .bool false, .bool false, .string ⟨#[]⟩] 44)))).get 0 rfl) ((H.out.kept (bthen (kFF v4 (.cells #[.int .i64 0, .slice none 0 0] 36)) (kFF (World.alloc v4 (.cells #[.int .i64 0, .slice none 0 0] 36)) (.cells #[.bool false, .bool false, .int .i64 0, .slice none 0 0, .slice none 0 0, .bool false, .bool false, .string ⟨#[]⟩] 44)))).get 1 rfl) ((H.out.kept (bthen (kFF v4 (.cells #[.int .i64 0, .slice none 0 0] 36)) (kFF (World.alloc v4 (.cells #[.int .i64 0, .slice none 0 0] 36)) (.cells #[.bool false, .bool false, .int .i64 0, .slice none 0 0, .slice none 0 0, .bool false, .bool false, .string ⟨#[]⟩] 44)))).get 2 rfl) hn8).mono ?_
             rintro e v5 ⟨A4, L, c4, q2, rfl, hLN, _, _, hq2, hR9, hG9⟩
             have hs5 : v4.heap.size ≤ v5.heap.size := Nat.le_trans (bthen (kFF v4 (.cells #[.int .i64 0, .slice none 0 0] 36)) (kFF (World.alloc v4 (.cells #[.int .i64 0, .slice none 0 0] 36)) (.cells #[.bool false, .bool false, .int .i64 0, .slice none 0 0, .slice none 0 0, .bool false, .bool false, .string ⟨#[]⟩] 44))).size hG9.size
             have HB5 := Lib.hid (Blk.grown ((Blk.newA v4 (v4.heap.size) rfl _ _).alloc _) hG9 (by simp; omega))
             have HB6 := Lib.hid (Blk.grown (Blk.newA (World.alloc v4 (.cells #[.int .i64 0, .slice none 0 0] 36)) (v4.heap.size + 1) (by simp only [World.size_alloc]) _ _) hG9 (by simp; omega))
             have HLN := Lib.hid hLN
             replace H := Lib.hid ((H.out.kept (bthen (kFF v4 (.cells #[.int .i64 0, .slice none 0 0] 36)) (kFF (World.alloc v4 (.cells #[.int .i64 0, .slice none 0 0] 36)) (.cells #[.bool false, .bool false, .int .i64 0, .slice none 0 0, .slice none 0 0, .bool false, .bool false, .string ⟨#[]⟩] 44)))).draw hR9 hG9)
             have hc0 : Blk v5 (g2) 36 #[.int .i64 now, .slice A l.length c] := H.out.blk 0 rfl
             have hc1 : Blk v5 (g2 + 1) 44 #[.bool on, .bool bad, .int .i64 t, .slice A2 ws.length c2, .slice A3 ns.length c3, .bool skip, .bool gone, .string inb] := H.out.blk 1 rfl
             clear hR9 hG9 hLN)
          | (with_reducible show Calls _ _ _ (World.alloc (World.alloc v5 (.cells #[.int .i64 0, .slice none 0 0] 36)) (.cells #[.bool false, .bool false, .int .i64 0, .slice none 0 0, .slice none 0 0, .bool false, .bool false, .string ⟨#[]⟩] 44)) _
             go_at_call 13
             refine (l6All_any now A l c on bad t A2 ws c2 A3 ns c3 skip gone inb A4 L c4 _ ((H.out.kept (bthen (kFF v5 (.cells #[.int .i64 0, .slice none 0 0] 36)) (kFF (World.alloc v5 (.cells #[.int .i64 0, .slice none 0 0] 36)) (.cells #[.bool false, .bool false, .int .i64 0, .slice none 0 0, .slice none 0 0, .bool false, .bool false, .string ⟨#[]⟩] 44)))).get 0 rfl) ((H.out.kept (bthen (kFF v5 (.cells #[.int .i64 0, .slice none 0 0] 36)) (kFF (World.alloc v5 (.cells #[.int .i64 0, .slice none 0 0] 36)) (.cells #[.bool false, .bool false, .int .i64 0, .slice none 0 0, .slice none 0 0, .bool false, .bool false, .string ⟨#[]⟩] 44)))).get 1 rfl) ((H.out.kept (bthen (kFF v5 (.cells #[.int .i64 0, .slice none 0 0] 36)) (kFF (World.alloc v5 (.cells #[.int .i64 0, .slice none 0 0] 36)) (.cells #[.bool false, .bool false, .int .i64 0, .slice none 0 0, .slice none 0 0, .bool false, .bool false, .string ⟨#[]⟩] 44)))).get 2 rfl) (LN.c _ _ (Kp.below (bthen (kFF v5 (.cells #[.int .i64 0, .slice none 0 0] 36)) (kFF (World.alloc v5 (.cells #[.int .i64 0, .slice none 0 0] 36)) (.cells #[.bool false, .bool false, .int .i64 0, .slice none 0 0, .slice none 0 0, .bool false, .bool false, .string ⟨#[]⟩] 44)))) HLN.out).1.sl HLN.out.2.1 HLN.out.2.2).mono ?_
             rintro e v6 ⟨nowu, Au, lu, cu, onu, badu, tu, A2u, wsu, c2u, A3u, nsu, c3u, skipu, goneu, inbu, A5, L5, c5, rfl, _, _, _, hL5, hc5, hm5, hb6⟩
             have hs6 : v5.heap.size ≤ v6.heap.size := Nat.le_trans (bthen (kFF v5 (.cells #[.int .i64 0, .slice none 0 0] 36)) (kFF (World.alloc v5 (.cells #[.int .i64 0, .slice none 0 0] 36)) (.cells #[.bool false, .bool false, .int .i64 0, .slice none 0 0, .slice none 0 0, .bool false, .bool false, .string ⟨#[]⟩] 44))).size hb6.size
             have HB5 := Lib.hid (Blk.kept ((Blk.newA v5 (v5.heap.size) rfl _ _).alloc _) hb6)
             have HB6 := Lib.hid (Blk.kept (Blk.newA (World.alloc v5 (.cells #[.int .i64 0, .slice none 0 0] 36)) (v5.heap.size + 1) (by simp only [World.size_alloc]) _ _) hb6)
             first
             | (have hy5_0 : v6.cell? ⟨_, 0, none⟩ = some (.int .i64 0) := HB5.out.cell 0; have hy5_1 : v6.cell? ⟨_, 1, none⟩ = some (.slice none 0 0) := HB5.out.cell 1; have hz5 := fun j => HB5.out.frozen j; have hw5 := HB5.out.lt)
             | skip
             first
             | (have hy6_0 : v6.cell? ⟨_, 0, none⟩ = some (.bool false) := HB6.out.cell 0; have hy6_1 : v6.cell? ⟨_, 1, none⟩ = some (.bool false) := HB6.out.cell 1; have hy6_2 : v6.cell? ⟨_, 2, none⟩ = some (.int .i64 0) := HB6.out.cell 2; have hy6_3 : v6.cell? ⟨_, 3, none⟩ = some (.slice none 0 0) := HB6.out.cell 3; have hy6_4 : v6.cell? ⟨_, 4, none⟩ = some (.slice none 0 0) := HB6.out.cell 4; have hy6_5 : v6.cell? ⟨_, 5, none⟩ = some (.bool false) := HB6.out.cell 5; have hy6_6 : v6.cell? ⟨_, 6, none⟩ = some (.bool false) := HB6.out.cell 6; have hy6_7 : v6.cell? ⟨_, 7, none⟩ = some (.string ⟨#[]⟩) := HB6.out.cell 7; have hz6 := fun j => HB6.out.frozen j; have hw6 := HB6.out.lt)
             | skip
             first
             | (have hne56 := blk_ne HB5.out HB6.out (by decide); have hne65 := Ne.symm hne56)
             | skip
             replace H := Lib.hid (SD.add ((H.out.kept (bthen (kFF v5 (.cells #[.int .i64 0, .slice none 0 0] 36)) (kFF (World.alloc v5 (.cells #[.int .i64 0, .slice none 0 0] 36)) (.cells #[.bool false, .bool false, .int .i64 0, .slice none 0 0, .slice none 0 0, .bool false, .bool false, .string ⟨#[]⟩] 44)))).kept hb6) (fun W => LN W A5 L5 2000) LN.c hL5)
             have hc0 : Blk v6 (g2) 36 #[.int .i64 now, .slice A l.length c] := H.out.blk 0 rfl
             have hc1 : Blk v6 (g2 + 1) 44 #[.bool on, .bool bad, .int .i64 t, .slice A2 ws.length c2, .slice A3 ns.length c3, .bool skip, .bool gone, .string inb] := H.out.blk 1 rfl
             clear hb6 hL5)
          | (with_reducible show Calls _ _ _ (World.alloc (World.alloc v4 (.cells #[.bool false, .bool false, .int .i64 0, .slice none 0 0, .slice none 0 0, .bool false, .bool false, .string ⟨#[]⟩] 44)) (.cells #[.int .i64 0, .slice none 0 0] 36)) _
             go_at_call 14
             refine (l6List_any u0 RA rb rc g (q1 + 1) now A l c on bad t A2 ws c2 A3 ns c3 skip gone inb n _ (H.out.kept (bthen (kFF v4 (.cells #[.bool false, .bool false, .int .i64 0, .slice none 0 0, .slice none 0 0, .bool false, .bool false, .string ⟨#[]⟩] 44)) (kFF (World.alloc v4 (.cells #[.bool false, .bool false, .int .i64 0, .slice none 0 0, .slice none 0 0, .bool false, .bool false, .string ⟨#[]⟩] 44)) (.cells #[.int .i64 0, .slice none 0 0] 36)))).rd (by omega) ((H.out.kept (bthen (kFF v4 (.cells #[.bool false, .bool false, .int .i64 0, .slice none 0 0, .slice none 0 0, .bool false, .bool false, .string ⟨#[]⟩] 44)) (kFF (World.alloc v4 (.cells #[.bool false, .bool false, .int .i64 0, .slice none 0 0, .slice none 0 0, .bool false, .bool false, .string ⟨#[]⟩] 44)) (.cells #[.int .i64 0, .slice none 0 0] 36)))).get 0 rfl) ((H.out.kept (bthen (kFF v4 (.cells #[.bool false, .bool false, .int .i64 0, .slice none 0 0, .slice none 0 0, .bool false, .bool false, .string ⟨#[]⟩] 44)) (kFF (World.alloc v4 (.cells #[.bool false, .bool false, .int .i64 0, .slice none 0 0, .slice none 0 0, .bool false, .bool false, .string ⟨#[]⟩] 44)) (.cells #[.int .i64 0, .slice none 0 0] 36)))).get 1 rfl) ((H.out.kept (bthen (kFF v4 (.cells #[.bool false, .bool false, .int .i64 0, .slice none 0 0, .slice none 0 0, .bool false, .bool false, .string ⟨#[]⟩] 44)) (kFF (World.alloc v4 (.cells #[.bool false, .bool false, .int .i64 0, .slice none 0 0, .slice none 0 0, .bool false, .bool false, .string ⟨#[]⟩] 44)) (.cells #[.int .i64 0, .slice none 0 0] 36)))).get 2 rfl) hn8).mono ?_
             rintro e v5 ⟨A4, L, c4, q2, rfl, hLN, _, _, hq2, hR9, hG9⟩
             have hs5 : v4.heap.size ≤ v5.heap.size := Nat.le_trans (bthen (kFF v4 (.cells #[.bool false, .bool false, .int .i64 0, .slice none 0 0, .slice none 0 0, .bool false, .bool false, .string ⟨#[]⟩] 44)) (kFF (World.alloc v4 (.cells #[.bool false, .bool false, .int .i64 0, .slice none 0 0, .slice none 0 0, .bool false, .bool false, .string ⟨#[]⟩] 44)) (.cells #[.int .i64 0, .slice none 0 0] 36))).size hG9.size
             have HB5 := Lib.hid (Blk.grown (Blk.newA (World.alloc v4 (.cells #[.bool false, .bool false, .int .i64 0, .slice none 0 0, .slice none 0 0, .bool false, .bool false, .string ⟨#[]⟩] 44)) (v4.heap.size + 1) (by simp only [World.size_alloc]) _ _) hG9 (by simp; omega))
             have HB6 := Lib.hid (Blk.grown ((Blk.newA v4 (v4.heap.size) rfl _ _).alloc _) hG9 (by simp; omega))
             have HLN := Lib.hid hLN
             replace H := Lib.hid ((H.out.kept (bthen (kFF v4 (.cells #[.bool false, .bool false, .int .i64 0, .slice none 0 0, .slice none 0 0, .bool false, .bool false, .string ⟨#[]⟩] 44)) (kFF (World.alloc v4 (.cells #[.bool false, .bool false, .int .i64 0, .slice none 0 0, .slice none 0 0, .bool false, .bool false, .string ⟨#[]⟩] 44)) (.cells #[.int .i64 0, .slice none 0 0] 36)))).draw hR9 hG9)
             have hc0 : Blk v5 (g2) 36 #[.int .i64 now, .slice A l.length c] := H.out.blk 0 rfl
             have hc1 : Blk v5 (g2 + 1) 44 #[.bool on, .bool bad, .int .i64 t, .slice A2 ws.length c2, .slice A3 ns.length c3, .bool skip, .bool gone, .string inb] := H.out.blk 1 rfl
             clear hR9 hG9 hLN)
          | (with_reducible show Calls _ _ _ (World.alloc (World.alloc v5 (.cells #[.bool false, .bool false, .int .i64 0, .slice none 0 0, .slice none 0 0, .bool false, .bool false, .string ⟨#[]⟩] 44)) (.cells #[.int .i64 0, .slice none 0 0] 36)) _
             go_at_call 13
             refine (l6All_any now A l c on bad t A2 ws c2 A3 ns c3 skip gone inb A4 L c4 _ ((H.out.kept (bthen (kFF v5 (.cells #[.bool false, .bool false, .int .i64 0, .slice none 0 0, .slice none 0 0, .bool false, .bool false, .string ⟨#[]⟩] 44)) (kFF (World.alloc v5 (.cells #[.bool false, .bool false, .int .i64 0, .slice none 0 0, .slice none 0 0, .bool false, .bool false, .string ⟨#[]⟩] 44)) (.cells #[.int .i64 0, .slice none 0 0] 36)))).get 0 rfl) ((H.out.kept (bthen (kFF v5 (.cells #[.bool false, .bool false, .int .i64 0, .slice none 0 0, .slice none 0 0, .bool false, .bool false, .string ⟨#[]⟩] 44)) (kFF (World.alloc v5 (.cells #[.bool false, .bool false, .int .i64 0, .slice none 0 0, .slice none 0 0, .bool false, .bool false, .string ⟨#[]⟩] 44)) (.cells #[.int .i64 0, .slice none 0 0] 36)))).get 1 rfl) ((H.out.kept (bthen (kFF v5 (.cells #[.bool false, .bool false, .int .i64 0, .slice none 0 0, .slice none 0 0, .bool false, .bool false, .string ⟨#[]⟩] 44)) (kFF (World.alloc v5 (.cells #[.bool false, .bool false, .int .i64 0, .slice none 0 0, .slice none 0 0, .bool false, .bool false, .string ⟨#[]⟩] 44)) (.cells #[.int .i64 0, .slice none 0 0] 36)))).get 2 rfl) (LN.c _ _ (Kp.below (bthen (kFF v5 (.cells #[.bool false, .bool false, .int .i64 0, .slice none 0 0, .slice none 0 0, .bool false, .bool false, .string ⟨#[]⟩] 44)) (kFF (World.alloc v5 (.cells #[.bool false, .bool false, .int .i64 0, .slice none 0 0, .slice none 0 0, .bool false, .bool false, .string ⟨#[]⟩] 44)) (.cells #[.int .i64 0, .slice none 0 0] 36)))) HLN.out).1.sl HLN.out.2.1 HLN.out.2.2).mono ?_
             rintro e v6 ⟨nowu, Au, lu, cu, onu, badu, tu, A2u, wsu, c2u, A3u, nsu, c3u, skipu, goneu, inbu, A5, L5, c5, rfl, _, _, _, hL5, hc5, hm5, hb6⟩
             have hs6 : v5.heap.size ≤ v6.heap.size := Nat.le_trans (bthen (kFF v5 (.cells #[.bool false, .bool false, .int .i64 0, .slice none 0 0, .slice none 0 0, .bool false, .bool false, .string ⟨#[]⟩] 44)) (kFF (World.alloc v5 (.cells #[.bool false, .bool false, .int .i64 0, .slice none 0 0, .slice none 0 0, .bool false, .bool false, .string ⟨#[]⟩] 44)) (.cells #[.int .i64 0, .slice none 0 0] 36))).size hb6.size
             have HB5 := Lib.hid (Blk.kept (Blk.newA (World.alloc v5 (.cells #[.bool false, .bool false, .int .i64 0, .slice none 0 0, .slice none 0 0, .bool false, .bool false, .string ⟨#[]⟩] 44)) (v5.heap.size + 1) (by simp only [World.size_alloc]) _ _) hb6)
             have HB6 := Lib.hid (Blk.kept ((Blk.newA v5 (v5.heap.size) rfl _ _).alloc _) hb6)
             first
             | (have hy5_0 : v6.cell? ⟨_, 0, none⟩ = some (.int .i64 0) := HB5.out.cell 0; have hy5_1 : v6.cell? ⟨_, 1, none⟩ = some (.slice none 0 0) := HB5.out.cell 1; have hz5 := fun j => HB5.out.frozen j; have hw5 := HB5.out.lt)
             | skip
             first
             | (have hy6_0 : v6.cell? ⟨_, 0, none⟩ = some (.bool false) := HB6.out.cell 0; have hy6_1 : v6.cell? ⟨_, 1, none⟩ = some (.bool false) := HB6.out.cell 1; have hy6_2 : v6.cell? ⟨_, 2, none⟩ = some (.int .i64 0) := HB6.out.cell 2; have hy6_3 : v6.cell? ⟨_, 3, none⟩ = some (.slice none 0 0) := HB6.out.cell 3; have hy6_4 : v6.cell? ⟨_, 4, none⟩ = some (.slice none 0 0) := HB6.out.cell 4; have hy6_5 : v6.cell? ⟨_, 5, none⟩ = some (.bool false) := HB6.out.cell 5; have hy6_6 : v6.cell? ⟨_, 6, none⟩ = some (.bool false) := HB6.out.cell 6; have hy6_7 : v6.cell? ⟨_, 7, none⟩ = some (.string ⟨#[]⟩) := HB6.out.cell 7; have hz6 := fun j => HB6.out.frozen j; have hw6 := HB6.out.lt)
             | skip
             first
             | (have hne56 := blk_ne HB5.out HB6.out (by decide); have hne65 := Ne.symm hne56)
             | skip
             replace H := Lib.hid (SD.add ((H.out.kept (bthen (kFF v5 (.cells #[.bool false, .bool false, .int .i64 0, .slice none 0 0, .slice none 0 0, .bool false, .bool false, .string ⟨#[]⟩] 44)) (kFF (World.alloc v5 (.cells #[.bool false, .bool false, .int .i64 0, .slice none 0 0, .slice none 0 0, .bool false, .bool false, .string ⟨#[]⟩] 44)) (.cells #[.int .i64 0, .slice none 0 0] 36)))).kept hb6) (fun W => LN W A5 L5 2000) LN.c hL5)
             have hc0 : Blk v6 (g2) 36 #[.int .i64 now, .slice A l.length c] := H.out.blk 0 rfl
             have hc1 : Blk v6 (g2 + 1) 44 #[.bool on, .bool bad, .int .i64 t, .slice A2 ws.length c2, .slice A3 ns.length c3, .bool skip, .bool gone, .string inb] := H.out.blk 1 rfl
             clear hb6 hL5)
          | fail)
      all_goals
        try go_wp2_with fail
        go_meet
        first
        | (have HZ := SD.put8 (SD.put2 (SD.addBox (SD.addBox H.out HB5.out (by omega) (by intro x hx; simp at hx; rcases hx with rfl | rfl <;> simp <;> omega)) HB6.out (by omega) (by intro x hx; simp at hx; rcases hx with rfl | rfl | rfl <;> simp <;> omega)) 2 (.int .i64 nowu) (.slice Au lu.length cu) rfl (by decide)) 3 (.bool onu) (.bool badu) (.int .i64 tu) (.slice A2u wsu.length c2u) (.slice A3u nsu.length c3u) (.bool skipu) (.bool goneu) (.string inbu) rfl (by decide); exact ⟨A5, L5, c5, q2, rfl, by omega, hc5, hm5, Lib.hid (SD.noBox (HZ) _ (List.forall_mem_cons.2 ⟨⟨LN.c, SD.get (HZ) 3 rfl⟩, fun P hP => absurd hP (by simp)⟩))⟩)
        | (have HZ := (SD.put2 (SD.addBox H.out HB5.out (by omega) (by intro x hx; simp at hx; rcases hx with rfl | rfl <;> simp <;> omega)) 2 (.int .i64 nowu) (.slice Au lu.length cu) rfl (by decide)).kept (kFF _ (.cells #[.bool onu, .bool badu, .int .i64 tu, .slice A2u wsu.length c2u, .slice A3u nsu.length c3u, .bool skipu, .bool goneu, .string inbu] 44)); exact ⟨A5, L5, c5, q2, rfl, by omega, hc5, hm5, Lib.hid (SD.noBox (HZ) _ (List.forall_mem_cons.2 ⟨⟨LN.c, SD.get (HZ) 3 rfl⟩, fun P hP => absurd hP (by simp)⟩))⟩)
        | (have HZ := (SD.put8 (SD.addBox H.out HB6.out (by omega) (by intro x hx; simp at hx; rcases hx with rfl | rfl <;> simp <;> omega)) 2 (.bool onu) (.bool badu) (.int .i64 tu) (.slice A2u wsu.length c2u) (.slice A3u nsu.length c3u) (.bool skipu) (.bool goneu) (.string inbu) rfl (by decide)).kept (kFF _ (.cells #[.int .i64 nowu, .slice Au lu.length cu] 36)); exact ⟨A5, L5, c5, q2, rfl, by omega, hc5, hm5, Lib.hid (SD.noBox (HZ) _ (List.forall_mem_cons.2 ⟨⟨LN.c, SD.get (HZ) 3 rfl⟩, fun P hP => absurd hP (by simp)⟩))⟩)
        | (have HZ := (H.out.kept (kFF v6 (.cells #[.int .i64 nowu, .slice Au lu.length cu] 36))).kept (kFF _ (.cells #[.bool onu, .bool badu, .int .i64 tu, .slice A2u wsu.length c2u, .slice A3u nsu.length c3u, .bool skipu, .bool goneu, .string inbu] 44)); exact ⟨A5, L5, c5, q2, rfl, by omega, hc5, hm5, Lib.hid (SD.noBox (HZ) _ (List.forall_mem_cons.2 ⟨⟨LN.c, SD.get (HZ) 3 rfl⟩, fun P hP => absurd hP (by simp)⟩))⟩)
        | (have HZ := (H.out.kept (kFF v6 (.cells #[.bool onu, .bool badu, .int .i64 tu, .slice A2u wsu.length c2u, .slice A3u nsu.length c3u, .bool skipu, .bool goneu, .string inbu] 44))).kept (kFF _ (.cells #[.int .i64 nowu, .slice Au lu.length cu] 36)); exact ⟨A5, L5, c5, q2, rfl, by omega, hc5, hm5, Lib.hid (SD.noBox (HZ) _ (List.forall_mem_cons.2 ⟨⟨LN.c, SD.get (HZ) 3 rfl⟩, fun P hP => absurd hP (by simp)⟩))⟩)
        | fail
    case rest =>
      obtain ⟨A5, L5, c5, q2, rfl, hq2, hc5, hm5, HQ⟩ := hcut
      clear H
      have H := Lib.hid HQ.out
      clear HQ
      have H : Hid (SD u0 RA rb rc g q2 w [] [fun W => LN W A5 L5 2000] wc) := Lib.hid H.out
      have hL5 : L5.length ≤ 2000 := (H.out.get 0 rfl).2.2
      by_cases h0 : L5.length = 0
      case pos =>
        obtain rfl := List.eq_nil_of_length_eq_zero h0
        go_wp2
        go_ret
        exact ⟨A5, [], c5, q2, rfl, H.out.get 0 rfl, hc5, hm5, by omega, H.out.rd, H.out.gr⟩
      have d0 : decide ((0 : Int) < (L5.length : Int)) = true := decide_eq_true (by omega)
      have d1 : (0 : Int) < (L5.length : Int) := by omega
      have d0n : decide (0 < L5.length) = true := decide_eq_true (by omega)
      have d1n : 0 < L5.length := by omega
      go_wp2_with fail
      refine (pick_any u0 RA rb rc g q2 3 _ H.out.rd (by omega) (by omega)).mono ?_
      rintro e v2 ⟨k3, hk3, rfl, hR9, hG9⟩
      replace H := Lib.hid (H.out.draw hR9 hG9)
      clear hR9 hG9
      by_cases hk3 : k3 = 0
      case neg =>
        have e0 : (((k3 : Nat) : Int) == 0) = false := beq_eq_false_iff_ne.2 (by omega)
        have e1 : ¬ ((k3 : Nat) : Int) = 0 := by omega
        go_wp2
        go_ret
        exact ⟨A5, L5, c5, q2 + 1, rfl, H.out.get 0 rfl, hc5, hm5, by omega, H.out.rd, H.out.gr⟩
      subst hk3
      go_wp2_with fail
      refine (pick_any u0 RA rb rc g (q2 + 1) L5.length _ H.out.rd (by omega) (by omega)).mono ?_
      rintro e v3 ⟨j, hj, rfl, hR9, hG9⟩
      replace H := Lib.hid (H.out.draw hR9 hG9)
      clear hR9 hG9
      obtain ⟨b, o, hAe, hbl, hcs⟩ := (H.out.get 0 rfl).1.sl (by omega)
      subst hAe
      clear hcs
      obtain ⟨M, hM, hLM⟩ := LN.take (H.out.get 0 rfl) j (by omega)
      have HLM := Lib.hid hLM
      clear hLM
      have j0 : (0 : Int) ≤ (j : Int) := by omega
      have j1 : (j : Int) ≤ (L5.length : Int) := by omega
      have j2 : (j : Int) ≤ (c5 : Int) := by omega
      have j3 : j ≤ c5 := by omega
      go_wp2
      go_ret
      subst hM
      exact ⟨_, M, c5, q2 + 1 + 1, by first | rfl | simp, HLM.out, by omega, hm5, by omega, H.out.rd, H.out.gr⟩
  case inr =>
    clear hk
    go_upto_region 8 with fail
    have hO := ownL_nil v1 v1.heap.size v1.heap.size rfl (Nat.le_refl _)
    have hw0 : w.heap.size ≤ v1.heap.size := H.out.gr.size
    replace H := Lib.hid (SD.add (H.out.kept (kFF v1 (.cells #[] 31))) (fun W => OwnL W v1.heap.size (.slice (some ⟨v1.heap.size, 0, none⟩) ([] : List Let).length 0) []) OwnL.c hO)
    clear hO
    have hwb : v1.heap.size ≤ (v1.alloc (.cells #[] 31)).heap.size := by simp
    generalize v1.alloc (.cells #[] 31) = va at *
    generalize v1.heap.size = gb at *
    have H : Hid (SD u0 RA rb rc g (p + 1) w [] [fun W => OwnL W gb (.slice (some ⟨gb, 0, none⟩) ([] : List Let).length 0) []] va) := Lib.hid H.out
    go_wp2_with fail
    have S9 := Sl.litN va 3 l9Mu #[.int .i64 2, .int .i64 4, .int .i64 1, .int .i64 6, .int .i64 0] rfl
    have hw9 := (Below.refl va.heap.size va).alloc (Nat.le_refl _) (.cells #[.int .i64 2, .int .i64 4, .int .i64 1, .int .i64 6, .int .i64 0] 3)
    have hg9 := H.out.rd.1.lt
    have HW9 := Lib.hid (H.out.kept hw9)
    refine (num_any u0 RA rb rc g (p + 1) _ l9Mu 5 _ HW9.out.rd (by omega) (by decide) S9 (by intro b o h; simp at h; omega)).mono ?_
    rintro e v4 ⟨k, hk, rfl, hR9, hG9⟩
    replace H := Lib.hid (HW9.out.draw hR9 hG9)
    clear hR9 hG9 HW9 hw9 hg9 S9
    have hk9 := l9Mu_le k hk
    obtain ⟨n, rfl⟩ : ∃ n : Nat, k = (n : Int) := ⟨k.toNat, by omega⟩
    have hn8 : n ≤ 6 := by omega
    clear hk hk9
    have HSZ : gb ≤ v4.heap.size := by have := (H.out.get 0 rfl).lt gb rfl; omega
    go_wp2
    go_loopw [8, 9] (fun v8 i wr => ∃ (k q : Nat) (AO : Option Addr) (LO : List Let) (cO : Nat), q ≤ p + 2 + 6 * LO.length ∧ i = .int .i64 k ∧ v8 = .slice AO LO.length cO ∧ Hid (LO.length + k ≤ 6 ∧ AllL LO) ∧ gb ≤ wr.heap.size ∧ Hid (SD u0 RA rb rc g q w [] [fun W => OwnL W gb (.slice AO LO.length cO) LO] wr)) (fun _ i _ => (intOf i).toNat)
    case atStart => exact ⟨n, _, _, [], 0, by simp, rfl, rfl, Lib.hid ⟨by simpa using hn8, AllL.nil⟩, HSZ, H⟩
    case round =>
      clear H
      obtain ⟨k, q, AO, LO, cO, hq, rfl, rfl, HLO, hwr, HQ⟩ := hrel
      have H := Lib.hid HQ.out
      clear HQ
      have hlo : LO.length ≤ 6 := by have := HLO.out.1; omega
      by_cases hk0 : 0 < k
      case neg =>
        obtain rfl : k = 0 := by omega
        obtain ⟨hc1, hc2⟩ : LO.length ≤ cO ∧ cO ≤ maxLen := by
          obtain ⟨A9, c9, e9, h1, h2, _⟩ := (H.out.get 0 rfl).sl
          injection e9 with _ _ e9
          subst e9
          exact ⟨h1, h2⟩
        go_wp2
        go_ret
        exact ⟨AO, LO, cO, q, rfl, LN.of (H.out.get 0 rfl) HLO.out.2 (by omega), hc1, hc2, by omega, H.out.rd, H.out.gr⟩
      have hk6 : k ≤ 6 := by have := HLO.out.1; omega
      have hki : (0 : Int) < (k : Int) := by omega
      have hkd : decide ((0 : Int) < (k : Int)) = true := decide_eq_true hki
      go_wp2_with fail
      refine (l9Letter_any u0 RA rb rc g q _ H.out.rd (by omega)).mono ?_
      rintro e v5 ⟨x, q5, rfl, hx, hq5, hR9, hG9⟩
      obtain ⟨sg, bd⟩ := x
      have HLS := Lib.hid hx
      have HQM := Lib.hid (show q5 ≤ p + 2 + 6 * (LO.length + 1) by omega)
      have hv5 : gb ≤ v5.heap.size := Nat.le_trans hwr hG9.size
      replace H := Lib.hid (H.out.draw hR9 hG9)
      clear hR9 hG9 hx
      obtain ⟨i0, hi0, hz0, hz1, hz2⟩ := info_parts infoLet
      have HI := Lib.hid (⟨hi0, hz0, hz1, hz2⟩ : _ ∧ _ ∧ _ ∧ _)
      clear hi0 hz0 hz1 hz2
      have hownA := (H.out.get 0 rfl).alloc (.cells #[.string sg, .string bd] 31)
      have hnewA := new_cells v5 [.string sg, .string bd] 31
      have H3 := Lib.hid (SD.only (H.out.kept (kFF v5 (.cells #[.string sg, .string bd] 31))) [] (fun P hP => absurd hP (by simp)))
      clear H
      go_wp2_with (at_builtin; refine wpList_append_own _ rfl (.tmp 55) (.tmp 58) 23 rfl gb 31 i0 _ 2 32 Tryz.underlying23 HI.out.1 HI.out.2.1 HI.out.2.2.1 HI.out.2.2.2 rfl (by decide) (.slice AO LO.length cO) LO.length (LO.flatMap encLet) rfl hownA ⟨v5.heap.size, 0, none⟩ 1 1 [.string sg, .string bd] rfl rfl hnewA (by simp [Value.oneCell']) (by unfold maxLen; omega) (by omega) (by simp; omega) ?_; intro v8 w8 ho8 hg8 _; have hn8 := SD.grownX H3.out hownA hg8 (fun b hb => absurd hb (by simp)) (by omega) (fun P hP => absurd hP (by simp)); obtain ⟨M, hM, hAM, hoM⟩ : ∃ M : List Let, M.length = LO.length + 1 ∧ AllL M ∧ OwnL w8 gb v8 M := ⟨LO ++ [(sg, bd)], by simp, HLO.out.2.snoc HLS.out, ownL_app ho8⟩; obtain ⟨A8, c8, rfl, _, _, _⟩ := hoM.sl; have H := Lib.hid (SD.add hn8 (fun W => OwnL W gb (.slice A8 M.length c8) M) OwnL.c hoM); have HLM := Lib.hid (show M.length + (k - 1) ≤ 6 ∧ AllL M from ⟨by have := HLO.out.1; omega, hAM⟩); have HQ2 := Lib.hid (show q5 ≤ p + 2 + 6 * M.length from hM ▸ HQM.out); have hw8 : gb ≤ w8.heap.size := Nat.le_trans hv5 (Nat.le_trans (kFF v5 (.cells #[.string sg, .string bd] 31)).size hg8.size); clear hn8 ho8 hg8 hM hAM hoM hownA hnewA)
      go_roundw
      case rel => exact ⟨k - 1, q5, A8, M, c8, HQ2.out, by first | go_num | exact vint (by omega) | (congr 1; omega), rfl, HLM, hw8, H⟩
      case measure => simp [intOf]; omega
end Go.Proofs.YtfmhhckkpenldaaGreatDoor
/- An argument that is a slice of bytes reads as a list. -/
namespace Go.Proofs.YtfmhhckkpenldaaGreatDoor
open Go.ChangeShapes Go.WideShapes Go.ChangeAt Go.RowKit
theorem cellsU8 : Tryz.prog.cellsOf 5 = 1 := by kernel_rfl
set_option maxRecDepth 100000 in
theorem open_bytes {H : Type} {enc : TypeId × Value → H} {w : World} {base base2 : Nat} {spare : Nat → Bool} {held : Bool} {v : Value} {d : DataW H} {p : List MemPlace}
    (hval : Value.okWide Tryz.prog w .any base 22 v) (h : DataW.Trod enc Tryz.prog w base2 spare held 22 v d p) :
    ∃ (A : Option Addr) (bs : List UInt8) (c : Nat), v = .slice A bs.length c ∧ (bs.length ≤ c ∧ c ≤ maxLen) ∧ Sl encU 1 w A bs := by
  obtain ⟨fuel, hf⟩ := h
  obtain ⟨a0, len, cap, rfl⟩ := okWide_slice Tryz.underlying22 hval
  rcases open_ints Tryz.underlying22 Tryz.underlying5 cellsU8 hf with ⟨hcs, hx⟩ | ⟨a, len', cap', zs, hcs, _, hl, hm, hz, hx, hcell, hwz⟩
  · simp [Value.cells] at hcs
    obtain ⟨rfl, rfl, rfl⟩ := hcs
    exact ⟨none, [], 0, rfl, ⟨Nat.le_refl _, Nat.zero_le _⟩, Sl.nil _ _ _ _⟩
  · simp [Value.cells] at hcs
    obtain ⟨rfl, rfl, rfl⟩ := hcs
    have hlz : len ≤ zs.length := by rw [hz]; split <;> omega
    obtain ⟨l, hll, _, hS⟩ := Sl.of_cells (enc := encU) (k := 1) (n := len) (w := w) (a := a) (Good := fun _ : UInt8 => True) (by omega) (fun _ => rfl) (fun i hil => by
      have hc := hcell i (by omega)
      have hb := range_u8 hwz i
      rw [List.getD_eq_getElem?_getD] at hc
      refine ⟨UInt8.ofNat (zs[i]?.getD 0).toNat, trivial, fun j hj => ?_⟩
      obtain rfl : j = 0 := by omega
      simp only [Nat.mul_one, Nat.add_zero]
      rw [hc]
      simp [encU]; omega)
    subst hll
    exact ⟨some a, l, cap, rfl, ⟨hl, hm⟩, hS⟩
end Go.Proofs.YtfmhhckkpenldaaGreatDoor
/- FnGramPair: the grammar is a loop: what may be told behind what leaves it idle may be told from the beginning. For all codes; the listed variables are tied to the program's text. -/
namespace Go.Proofs.YtfmhhckkpenldaaGreatDoor
open Go.ChangeShapes Go.WideShapes Go.ChangeAt Go.RowKit
theorem gramL_app {l m : List Let} (h : gramL l = 0) : gramL (l ++ m) = gramL m := by
  unfold gramL at *
  rw [List.foldl_append, h]
theorem small_LN {W : World} {A : Option Addr} {L : List Let} {n : Nat} (h : LN W A L n) (hn : n ≤ 1048576) : SmallL L := ⟨Nat.le_trans h.2.2 hn, fun x hx => ⟨Nat.le_trans (h.2.1 x hx).1 (by decide), Nat.le_trans (h.2.1 x hx).2 (by decide)⟩⟩
set_option maxRecDepth 100000 in
set_option maxHeartbeats 4000000 in
theorem drawGA_any (A : Option Addr) (bs : List UInt8) (c : Nat) (w : World) (hn : bs.length ≤ 1048576) (hc : bs.length ≤ c) (hm : c ≤ maxLen) (hS : Sl encU 1 w A bs) :
    Calls Tryz.prog 4 #[.slice A bs.length c] w fun e w' => ∃ (A' : Option Addr) (L : List Let) (c' : Nat), e = .returned (.slice A' L.length c') ∧ LN w' A' L 2000 ∧ L.length ≤ c' ∧ c' ≤ maxLen ∧ Below w.heap.size w w' := by
  go_enter Tryz.func4, Tryz.ntmps4
  go_wp2_with fail
  refine (open_any A bs c w hn hc hm hS).mono ?_
  rintro e w1 ⟨bs', c', g, rfl, hR1, hb1⟩
  go_wp2_with fail
  refine (l9List_any w A bs' c' g 0 w1 hR1 (by omega)).mono ?_
  rintro e w2 ⟨A4, L, c4, q, rfl, hLN, hc4, hm4, _, hR2, _⟩
  have HL := Lib.hid hLN
  have hbe := hR2.2.1
  clear hLN hR1 hR2
  go_wp2
  go_ret
  exact ⟨A4, L, c4, rfl, HL.out, hc4, hm4, hbe⟩
set_option maxRecDepth 100000 in
set_option maxHeartbeats 8000000 in
theorem lawPair (A : Option Addr) (bs : List UInt8) (c : Nat) (hbc : bs.length ≤ c ∧ c ≤ maxLen) (Am : Option Addr) (bm : List UInt8) (cm : Nat) (hbm : bm.length ≤ cm ∧ cm ≤ maxLen) (w : World) (hS : Sl encU 1 w A bs) (hSm : Sl encU 1 w Am bm) (hV : Env w) :
    Calls Tryz.prog 3 #[.slice A bs.length c, .slice Am bm.length cm] w fun e w' => e = .returned (.bool true) ∧ Below w.heap.size w w' := by
  have hmx : maxLen = 9223372036854775807 := by unfold maxLen; rfl
  have hbl : bs.length ≤ 9223372036854775807 := by omega
  have hbl2 : bm.length ≤ 9223372036854775807 := by omega
  by_cases hz : bs.length ≤ 1048576
  case neg =>
    have d0 : decide ((1048576 : Int) < (bs.length : Int)) = true := decide_eq_true (by omega)
    have d1 : (1048576 : Int) < (bs.length : Int) := by omega
    go_enter Tryz.func3, Tryz.ntmps3
    go_wp2
    go_ret
    exact ⟨rfl, Below.refl _ _⟩
  have d0 : decide ((1048576 : Int) < (bs.length : Int)) = false := decide_eq_false (by omega)
  by_cases hz2 : bm.length ≤ 1048576
  case neg =>
    have d1 : decide ((1048576 : Int) < (bm.length : Int)) = true := decide_eq_true (by omega)
    go_enter Tryz.func3, Tryz.ntmps3
    go_wp2
    go_ret
    exact ⟨rfl, Below.refl _ _⟩
  have d1 : decide ((1048576 : Int) < (bm.length : Int)) = false := decide_eq_false (by omega)
  have HD := Lib.hid (drawGA_any A bs c w hz hbc.1 hbc.2 hS)
  have HDm := Lib.hid (fun (W : World) (hW : Below w.heap.size w W) => drawGA_any Am bm cm W hz2 hbm.1 hbm.2 (hSm.below hW))
  have HV := Lib.hid hV
  clear hS hSm hV hbc hbm
  go_enter Tryz.func3, Tryz.ntmps3
  go_wp2_with fail
  refine HD.out.mono ?_
  rintro e w1 ⟨A1, l1, c1, rfl, hL1, _, _, hb1⟩
  have H1 := Lib.hid hL1
  have HB1 := Lib.hid hb1
  clear hL1
  go_wp2_with fail
  refine (HDm.out _ hb1).mono ?_
  rintro e w2 ⟨A2, l2, c2, rfl, hL2, _, _, hb2⟩
  have H2 := Lib.hid hL2
  have HL1 := Lib.hid (LN.c _ _ (Kp.below hb2) H1.out)
  have hb02 := bthen hb1 hb2
  clear hL2 hb1 hb2 HD HDm H1 d0 d1
  go_wp2_with fail
  refine (implGramAll_any A1 l1 c1 _ (small_LN HL1.out (by decide)) HL1.out.1.sl (HV.out.below hb02)).mono ?_
  rintro e w3 ⟨rfl, hb3⟩
  have hb03 := bthen hb02 hb3
  have HS10 := Lib.hid (HL1.out.1.sl.below hb3)
  have HS20 := Lib.hid (H2.out.1.sl.below hb3)
  go_wp2_with fail
  refine (specGramAll_any A1 l1 c1 _ (small_LN HL1.out (by decide)) HS10.out).mono ?_
  rintro e w4 ⟨rfl, hb4⟩
  have hb04 := bthen hb03 hb4
  by_cases hg : gramL l1 = 0
  case neg =>
    generalize hgg : gramL l1 = g1 at *
    have HG := Lib.hid hgg
    have e0 : (g1 != 0) = true := by simp [bne, hg]
    have e1 : (g1 == 0) = false := beq_eq_false_iff_ne.2 hg
    clear hgg
    have HC := Lib.hid (specGramAll_any A1 l1 c1 w4 (small_LN HL1.out (by decide)) (HS10.out.below hb4))
    rw [HG.out] at HC
    go_wp2_with fail
    refine HC.out.mono ?_
    rintro e w5 ⟨rfl, hb5⟩
    have hbe := bthen hb04 hb5
    go_wp2
    go_ret
    exact ⟨by first | rfl | simp, hbe⟩
  have HPL := Lib.hid (gramL_app (m := l2) hg)
  rw [hg]
  have HB4 := Lib.hid (kFF w4 (.cells #[] 31))
  have HO := Lib.hid (ownL_nil w4 w4.heap.size w4.heap.size rfl (Nat.le_refl _))
  have hBS : w4.heap.size ≤ (w4.alloc (.cells #[] 31)).heap.size := by rw [World.size_alloc]; omega
  have HS1 := Lib.hid ((HS10.out.below hb4).below (kFF w4 (.cells #[] 31)))
  replace HS20 := Lib.hid (HS20.out.below hb4)
  have HAA := Lib.hid (HL1.out.2.1.app H2.out.2.1)
  have hl1 : l1.length ≤ 2000 := HL1.out.2.2
  have hl2 : l2.length ≤ 2000 := H2.out.2.2
  have HBE := Lib.hid hb04
  have HSM2 := Lib.hid (small_LN H2.out (by decide))
  clear hb3 hb4 hb02 hb03
  obtain ⟨i0, hi0, hz0, hz1, hz2'⟩ := info_parts infoLet
  have HI := Lib.hid (⟨hi0, hz0, hz1, hz2'⟩ : _ ∧ _ ∧ _ ∧ _)
  clear hi0 hz0 hz1 hz2'
  go_wp2_with (first
    | (at_builtin; refine wpList_append_slM (enc := encLet) rfl (.tmp 34) (.tmp 35) 23 rfl w4.heap.size 31 i0 (.agg #[.string ⟨#[]⟩, .string ⟨#[]⟩]) 2 32 Tryz.underlying23 HI.out.1 HI.out.2.1 HI.out.2.2.1 HI.out.2.2.2 rfl (by decide) _ 0 [] rfl HO.out encLet_len A1 l1 l1.length _ rfl (by first | rfl | simp [Act.eval]) HS1.out (encLet_one _) (by unfold maxLen; omega) (by omega) hBS ?_; intro v5 w5 ho5 hgr9 _; have HO5 : Hid (OwnL w5 w4.heap.size v5 l1) := Lib.hid (by simpa [OwnL] using ho5); have hb5 := HB4.out.grown hgr9 hBS (fun j hj => own_ge HO.out hj); have HB5 := Lib.hid hb5; have hB5 : w4.heap.size ≤ w5.heap.size := hb5.size; have HS2 := Lib.hid (HS20.out.below hb5); obtain ⟨A5, c5, rfl, _, _, _⟩ := HO5.out.sl; clear ho5 hgr9 hb5)
    | (at_builtin; refine wpList_append_slM (enc := encLet) rfl (.tmp 36) (.tmp 37) 23 rfl w4.heap.size 31 i0 (.agg #[.string ⟨#[]⟩, .string ⟨#[]⟩]) 2 32 Tryz.underlying23 HI.out.1 HI.out.2.1 HI.out.2.2.1 HI.out.2.2.2 rfl (by decide) _ l1.length (l1.flatMap encLet) rfl HO5.out encLet_len A2 l2 l2.length _ rfl (by first | rfl | simp [Act.eval]) HS2.out (encLet_one _) (by unfold maxLen; omega) (by omega) hB5 ?_; intro v6 w6 ho6 hgr9 _; obtain ⟨M, hMe, hoM⟩ : ∃ M : List Let, M = l1 ++ l2 ∧ OwnL w6 w4.heap.size v6 M := ⟨_, rfl, ownL_appL ho6⟩; have hb6 := HB5.out.grown hgr9 hB5 (fun j hj => own_ge HO5.out hj); have HB6 := Lib.hid hb6; obtain ⟨A6, c6, rfl, _, _, _⟩ := hoM.sl; have HS6 := Lib.hid (LN.of (n := 4000) hoM (hMe ▸ HAA.out) (by rw [hMe, List.length_append]; omega)); have HME := Lib.hid hMe; clear ho6 hgr9 hb6 hoM hMe)
    | fail)
  have hb46 : Below w4.heap.size w4 w6 := HB6.out
  have hb06 := bthen HBE.out hb46
  refine (implGramAll_any A6 M c6 _ (small_LN HS6.out (by decide)) HS6.out.1.sl (HV.out.below hb06)).mono ?_
  rintro e w7 ⟨rfl, hb7⟩
  rw [HME.out, HPL.out]
  have hb07 := bthen hb06 hb7
  have HSB := Lib.hid (HS20.out.below (bthen hb46 hb7))
  generalize hgg : gramL l2 = g2 at *
  have HG := Lib.hid hgg
  have HC := Lib.hid (implGramAll_any A2 l2 c2 w7 HSM2.out HSB.out (HV.out.below hb07))
  rw [HG.out] at HC
  clear hgg
  go_wp2_with fail
  refine HC.out.mono ?_
  rintro e w8 ⟨rfl, hb8⟩
  have hbe := bthen hb07 hb8
  go_wp2
  go_ret
  exact ⟨by first | rfl | simp, hbe⟩
set_option maxRecDepth 100000 in
theorem fnGramPair_lifted (os : Os) (started : os.Started) (H : Type) (enc : TypeId × Value → H) :
    ReturnsInHanded {} Tryz.checked os 3 .any (fun w args => (Rows.fnGramPairSpec.pre enc Tryz.prog Tryz.f3 [] false w args ∧ laidMetH Tryz.prog laidG w) ∧ sizedMet enc Tryz.prog Tryz.f3 (OpenSpec.ofChange Rows.fnGramPairSpec) false w args)
      (Rows.fnGramPairSpec.post enc Tryz.prog Tryz.f3 false true false false) := by
  refine returnsInHanded_of_change_and (C := Tryz.checked) (X := fun w _ => laidMetH Tryz.prog laidG w) (fun _ _ _ hh h => h.of_heap hh) own0 started (by kernel_rfl) Tryz.func3
    (ChangeSpec.witness_shaped (enc := enc) (C := Tryz.checked) (os := os) (X := fun w _ => laidMetH Tryz.prog laidG w) false (World.doorLaid Tryz.prog 2000 os) #[.slice none 0 0, .slice none 0 0] 8 rfl (World.shaped_of_RefB (by kernel_rfl) (by kernel_rfl)) (by kernel_rfl) (by kernel_rfl) (by kernel_rfl) (door_met os _)) ?_
  intro W base args ds gs before hval0 hW _ _ hL _
  have hval : ∀ (j : Nat) t v, Tryz.f3.params[j]? = some t → args[j]? = some v → Value.okWide Tryz.prog W .any base t v := hval0
  have hW' := hW
  obtain ⟨p, q, hA0, hV, rfl, hfz, hnd⟩ := hW
  have hA : DataW.TrodAll enc Tryz.prog W 0 (fun _ => true) true Tryz.f3.params.toList args.toList ds p := hA0
  rw [Tryz.params3] at hA hval
  obtain ⟨v0, vs0, d0, ds0, p0, q0, hargs, rfl, rfl, h0, r0⟩ := trodAll_cons hA
  obtain ⟨v1, vs1, d1, ds1, p1, q1, rfl, rfl, rfl, h1, r1⟩ := trodAll_cons r0
  obtain ⟨rfl, rfl, rfl⟩ := trodAll_nil r1
  obtain rfl : args = #[v0, v1] := by cases args; simp_all
  have hV1 : DataW.TrodVars enc Tryz.prog W (fun _ => true) ["loop.example/engrosser/impl.codeWords"] gs q := hV
  obtain ⟨g1, rfl⟩ : ∃ g1, gs = [g1] := by
    match gs, hV1 with
    | [g1], _ => exact ⟨g1, rfl⟩
    | [], h => exact h.elim
    | g1 :: g2 :: r, h => obtain ⟨_, _, _, _, _, _, _, _, _, _, hs, _⟩ := h; exact hs.elim
  have hE := env_of hL
  have k0 := h0
  have lt0 : ∀ x ∈ p0, x.block < W.heap.size := by obtain ⟨m, hm⟩ := k0; exact DataW.trod_lt m _ _ _ hm
  obtain ⟨A0, bs0, c0, rfl, hb0, hR0⟩ := open_bytes (hval 0 22 v0 rfl rfl) h0
  have k1 := h1
  have lt1 : ∀ x ∈ p1, x.block < W.heap.size := by obtain ⟨m, hm⟩ := k1; exact DataW.trod_lt m _ _ _ hm
  obtain ⟨A1, bs1, c1, rfl, hb1, hR1⟩ := open_bytes (hval 1 22 v1 rfl rfl) h1
  clear hA0 hval0
  refine (lawPair A0 bs0 c0 hb0 A1 bs1 c1 hb1 W hR0 hR1 hE).mono fun e W' ⟨he, bel⟩ => ?_
  subst he
  exact ⟨_, rfl, _, _, _, [], _, _, hW', trodAll_mk1 (shut_bool Tryz.underlying4 _), (trodAll_cons_mk (Below.trod laidOut0 (by kernel_rfl) (of_decide_eq_true (by kernel_rfl)) k0 bel lt0) (trodAll_cons_mk (Below.trod laidOut0 (by kernel_rfl) (of_decide_eq_true (by kernel_rfl)) k1 bel lt1) trodAll_mk0)), Below.trodVars laidOut0 bel varsOk hV1, bel.frame _, fun h => by cases h⟩

theorem fnGramPair_row : Rows.FnGramPairSaid :=
  OpenClaim.holds_of_wide 3 Tryz.f3 rfl rfl rfl rfl rfl rfl rfl ⟨rfl, rfl, rfl, rfl, rfl⟩ rfl rfl rfl rfl rfl (by kernel_rfl) Tryz.func3 (by kernel_rfl)
    (of_decide_eq_true (by kernel_rfl)) (by unfold Func.isWrapper; first | (rw [if_pos (by decide +kernel)]; kernel_rfl) | (rw [if_neg (by decide +kernel)]; exact ⟨rfl, rfl⟩))
    (fun os started H enc _ => fnGramPair_lifted os started H enc)
theorem fnGramPair_card : Rows.FnGramPairCardSaid :=
  Claim7.holds_tied_plain_at .later [] [.data, .data, .data, .sentinel, .sentinel, .data] true (true, "dda51437f885338290504b4095602acd8ce0a0482ae69290732f988ca47df624") true
    fnGramPair_row (fun _ h => by cases h) (by kernel_rfl) (fun _ h => by cases h) fnGramPair_row_tie rfl ⟨rfl, rfl⟩ (by kernel_rfl) rfl
    (fun f fn hf hfn => by
      obtain rfl : f = 3 := Option.some.inj ((show Tryz.prog.funcNamed "loop.example/engrosser/laws.FnGramPair" = some 3 by kernel_rfl).symm.trans hf) |>.symm
      obtain rfl : fn = Tryz.f3 := (Option.some.inj (Tryz.func3.symm.trans hfn)).symm
      exact ⟨by kernel_rfl, fun j t ht => by
        rw [Tryz.params3] at ht
        have h3 : t = 22 := by
          match j, ht with
          | 0, ht => simp at ht; simp [ht]
          | 1, ht => simp at ht; simp [ht]
          | j + 2, ht => simp at ht
        subst h3
        exact (show Tryz.prog.wantsStandIn 22 = false by kernel_rfl)⟩)
    (by kernel_rfl)
#print axioms fnGramPair_card
end Go.Proofs.YtfmhhckkpenldaaGreatDoor
