import Derived.Test.YtfmhhckkpenldaaGreatDoorM14
import Derived.Deep.RegionHeld3
import Derived.Deep.RegionWith
import Derived.Deep.Cut
import Derived.Deep.DeepCutAuto
import Derived.BigQuiet
import Derived.Test.YtfmhhckkpenldaaGreatDoorM02
import Derived.Test.YtfmhhckkpenldaaGreatDoorAskX
/- A bundle of what stands in a call: boxes, and facts that a store to a box leaves alone. -/
namespace Go.Proofs.YtfmhhckkpenldaaGreatDoor
open Go.RowKit
theorem Blk.q1 {W : World} {a : Nat} {t : TypeId} {v0 : Value} (h : Blk W a t #[v0]) : W.cell? ⟨a, 0, none⟩ = some v0 := h.cell 0
theorem Blk.z1 {W : World} {a : Nat} {t : TypeId} {cs : Array Value} (h : Blk W a t cs) : W.frozen? ⟨a, 0, none⟩ = false := h.frozen 0
theorem Blk.q2 {W : World} {a : Nat} {t : TypeId} {v0 v1 : Value} (h : Blk W a t #[v0, v1]) : W.cell? ⟨a, 0, none⟩ = some v0 ∧ W.cell? ⟨a, 1, none⟩ = some v1 := ⟨h.cell 0, h.cell 1⟩
theorem Blk.z2 {W : World} {a : Nat} {t : TypeId} {cs : Array Value} (h : Blk W a t cs) : W.frozen? ⟨a, 0, none⟩ = false ∧ W.frozen? ⟨a, 1, none⟩ = false := ⟨h.frozen 0, h.frozen 1⟩
theorem Blk.q3 {W : World} {a : Nat} {t : TypeId} {v0 v1 v2 : Value} (h : Blk W a t #[v0, v1, v2]) : W.cell? ⟨a, 0, none⟩ = some v0 ∧ W.cell? ⟨a, 1, none⟩ = some v1 ∧ W.cell? ⟨a, 2, none⟩ = some v2 := ⟨h.cell 0, h.cell 1, h.cell 2⟩
theorem Blk.z3 {W : World} {a : Nat} {t : TypeId} {cs : Array Value} (h : Blk W a t cs) : W.frozen? ⟨a, 0, none⟩ = false ∧ W.frozen? ⟨a, 1, none⟩ = false ∧ W.frozen? ⟨a, 2, none⟩ = false := ⟨h.frozen 0, h.frozen 1, h.frozen 2⟩
theorem Blk.q4 {W : World} {a : Nat} {t : TypeId} {v0 v1 v2 v3 : Value} (h : Blk W a t #[v0, v1, v2, v3]) : W.cell? ⟨a, 0, none⟩ = some v0 ∧ W.cell? ⟨a, 1, none⟩ = some v1 ∧ W.cell? ⟨a, 2, none⟩ = some v2 ∧ W.cell? ⟨a, 3, none⟩ = some v3 := ⟨h.cell 0, h.cell 1, h.cell 2, h.cell 3⟩
theorem Blk.z4 {W : World} {a : Nat} {t : TypeId} {cs : Array Value} (h : Blk W a t cs) : W.frozen? ⟨a, 0, none⟩ = false ∧ W.frozen? ⟨a, 1, none⟩ = false ∧ W.frozen? ⟨a, 2, none⟩ = false ∧ W.frozen? ⟨a, 3, none⟩ = false := ⟨h.frozen 0, h.frozen 1, h.frozen 2, h.frozen 3⟩
theorem Blk.q5 {W : World} {a : Nat} {t : TypeId} {v0 v1 v2 v3 v4 : Value} (h : Blk W a t #[v0, v1, v2, v3, v4]) : W.cell? ⟨a, 0, none⟩ = some v0 ∧ W.cell? ⟨a, 1, none⟩ = some v1 ∧ W.cell? ⟨a, 2, none⟩ = some v2 ∧ W.cell? ⟨a, 3, none⟩ = some v3 ∧ W.cell? ⟨a, 4, none⟩ = some v4 := ⟨h.cell 0, h.cell 1, h.cell 2, h.cell 3, h.cell 4⟩
theorem Blk.q8 {W : World} {a : Nat} {t : TypeId} {v0 v1 v2 v3 v4 v5 v6 v7 : Value} (h : Blk W a t #[v0, v1, v2, v3, v4, v5, v6, v7]) : W.cell? ⟨a, 0, none⟩ = some v0 ∧ W.cell? ⟨a, 1, none⟩ = some v1 ∧ W.cell? ⟨a, 2, none⟩ = some v2 ∧ W.cell? ⟨a, 3, none⟩ = some v3 ∧ W.cell? ⟨a, 4, none⟩ = some v4 ∧ W.cell? ⟨a, 5, none⟩ = some v5 ∧ W.cell? ⟨a, 6, none⟩ = some v6 ∧ W.cell? ⟨a, 7, none⟩ = some v7 := ⟨h.cell 0, h.cell 1, h.cell 2, h.cell 3, h.cell 4, h.cell 5, h.cell 6, h.cell 7⟩
theorem Blk.z8 {W : World} {a : Nat} {t : TypeId} {cs : Array Value} (h : Blk W a t cs) : W.frozen? ⟨a, 0, none⟩ = false ∧ W.frozen? ⟨a, 1, none⟩ = false ∧ W.frozen? ⟨a, 2, none⟩ = false ∧ W.frozen? ⟨a, 3, none⟩ = false ∧ W.frozen? ⟨a, 4, none⟩ = false ∧ W.frozen? ⟨a, 5, none⟩ = false ∧ W.frozen? ⟨a, 6, none⟩ = false ∧ W.frozen? ⟨a, 7, none⟩ = false := ⟨h.frozen 0, h.frozen 1, h.frozen 2, h.frozen 3, h.frozen 4, h.frozen 5, h.frozen 6, h.frozen 7⟩
def KpC (P : World → Prop) : Prop := ∀ W W' : World, Kp W W' → P W → P W'
theorem VK.c {now : Int} {A : Option Addr} {l : List Ver} : KpC (fun W => VK W now A l) := fun _ _ hk h => h.kp hk
theorem WK.c {A : Option Addr} {l : List Wri} : KpC (fun W => WK W A l) := fun _ _ hk h => h.kp hk
theorem NK.c {A : Option Addr} {l : List Nm} : KpC (fun W => NK W A l) := fun _ _ hk h => h.kp hk
theorem RK.c {A : Option Addr} {l : List Row} {c : Nat} : KpC (fun W => RK W A l c) := fun _ _ hk h => h.kp hk
/-- a row of one's own, its elements no boxes -/
theorem own_kp {w w' : World} {B k n : Nat} {e : TypeId} {v : Value} {xs : List Value} (h : w.ownsRow B e k v n xs) (hk : Kp w w') (ht : e ∉ boxT) : w'.ownsRow B e k v n xs := by
  refine ⟨h.1, ?_⟩
  rcases h.2 with h2 | ⟨g, cap, cur, hv, hg, hh, r⟩
  · exact .inl h2
  · exact .inr ⟨g, cap, cur, hv, hg, hk.2 _ _ _ hh ht, r⟩
theorem OwnR.c {B : Nat} {v : Value} {l : List Row} : KpC (fun W => OwnR W B v l) := fun _ _ hk h => own_kp h hk (by decide)
def SP (w : World) (L : List (Nat × TypeId × Array Value)) (Ps : List (World → Prop)) (W : World) : Prop := Sts w L W ∧ ∀ P ∈ Ps, KpC P ∧ P W
/-- boxes made one behind the other -/
def allocAll (w : World) : List (TypeId × Array Value) → World
  | [] => w
  | (t, cs) :: r => allocAll (w.alloc (.cells cs t)) r
def boxesFrom (n : Nat) : List (TypeId × Array Value) → List (Nat × TypeId × Array Value)
  | [] => []
  | (t, cs) :: r => (n, t, cs) :: boxesFrom (n + 1) r
section
variable {w W W' : World} {L : List (Nat × TypeId × Array Value)} {Ps : List (World → Prop)}
theorem SP.below (h : SP w L Ps W) : Below w.heap.size w W := h.1.2.2
theorem SP.kp (h : SP w L Ps W) {P : World → Prop} (k : Nat) (hk : Ps[k]? = some P) : KpC P := (h.2 P (List.mem_of_getElem? hk)).1
theorem SP.get (h : SP w L Ps W) {P : World → Prop} (k : Nat) (hk : Ps[k]? = some P) : P W := (h.2 P (List.mem_of_getElem? hk)).2
theorem SP.blk (h : SP w L Ps W) (i : Nat) {a : Nat} {t : TypeId} {cs : Array Value} (hi : L[i]? = some (a, t, cs)) : Blk W a t cs := h.1.blk i hi
theorem SP.kept (h : SP w L Ps W) (hb : Below W.heap.size W W') : SP w L Ps W' := ⟨h.1.kept hb, fun P hP => ⟨(h.2 P hP).1, (h.2 P hP).1 _ _ (Kp.below hb) (h.2 P hP).2⟩⟩
theorem SP.alloc (h : SP w L Ps W) (t : TypeId) (cs : Array Value) : SP w (L ++ [(W.heap.size, t, cs)]) Ps (W.alloc (.cells cs t)) :=
  ⟨h.1.alloc t cs, fun P hP => ⟨(h.2 P hP).1, (h.2 P hP).1 _ _ (Kp.below ((Below.refl _ _).alloc (Nat.le_refl _) _)) (h.2 P hP).2⟩⟩
theorem SP.set (h : SP w L Ps W) (j i : Nat) (u : Value) {a : Nat} {t : TypeId} {cs : Array Value} (hj : L[j]? = some (a, t, cs)) (ht : t ∈ boxT) : SP w (L.set j (a, t, cs.setIfInBounds i u)) Ps (W.setCell ⟨a, i, none⟩ u) :=
  ⟨h.1.set j i u hj, fun P hP => ⟨(h.2 P hP).1, (h.2 P hP).1 _ _ ((Kp.refl W).set (h.1.blk j hj) ht u) (h.2 P hP).2⟩⟩
/-- the last stores of a call: a box of a type that slices may have, no facts kept -/
theorem SP.setN (h : SP w L Ps W) (j i : Nat) (u : Value) {a : Nat} {t : TypeId} {cs : Array Value} (hj : L[j]? = some (a, t, cs)) : SP w (L.set j (a, t, cs.setIfInBounds i u)) [] (W.setCell ⟨a, i, none⟩ u) := ⟨h.1.set j i u hj, fun P hP => absurd hP (by simp)⟩
theorem SP.add (h : SP w L Ps W) (P : World → Prop) (hc : KpC P) (hP : P W) : SP w L (Ps ++ [P]) W := ⟨h.1, fun Q hQ => by
  rcases List.mem_append.1 hQ with hQ | hQ
  · exact h.2 Q hQ
  · simp at hQ; subst hQ; exact ⟨hc, hP⟩⟩
/-- a box that was made behind the world of the bundle -/
theorem SP.addNew (h : SP w L Ps W) (hb : Below W.heap.size W W') {g : Nat} {t : TypeId} {cs : Array Value} (hB : Blk W' g t cs) (hg : W.heap.size ≤ g) : SP w (L ++ [(g, t, cs)]) Ps W' := by
  have h1 := h.kept hb
  refine ⟨⟨fun b hm => ?_, ?_, h1.1.2.2⟩, h1.2⟩
  · rcases List.mem_append.1 hm with hm | hm
    · exact h1.1.1 b hm
    · simp at hm; subst hm; exact ⟨Nat.le_trans h.1.2.2.size hg, hB⟩
  · rw [List.map_append, List.nodup_append]
    refine ⟨h1.1.2.1, by simp, fun x hx y hy => ?_⟩
    simp at hy; subst hy
    obtain ⟨b, hm, rfl⟩ := List.mem_map.1 hx
    have := (h.1.1 b hm).2.lt
    omega
theorem SP.boxes (h : SP w L Ps W) : ∀ (cs : List (TypeId × Array Value)), SP w (L ++ boxesFrom W.heap.size cs) Ps (allocAll W cs) := by
  intro cs
  induction cs generalizing L W with
  | nil => simpa [boxesFrom, allocAll] using h
  | cons x r ih =>
    obtain ⟨t, c⟩ := x
    have h1 := ih (h.alloc t c)
    rw [World.size_alloc, List.append_assoc] at h1
    exact h1
theorem SP.start (w : World) (cs : List (TypeId × Array Value)) : SP w (boxesFrom w.heap.size cs) [] (allocAll w cs) := by
  have h : SP w [] [] w := ⟨Sts.start w, fun P hP => absurd hP (by simp)⟩
  simpa using h.boxes cs
end
theorem allocAll_below (w : World) (cs : List (TypeId × Array Value)) : Below w.heap.size w (allocAll w cs) := (SP.start w cs).below
end Go.Proofs.YtfmhhckkpenldaaGreatDoor
/- The reference's AskRead: a text is read as what may be asked (bounds). -/
namespace Go.Proofs.YtfmhhckkpenldaaGreatDoor
open Go.RowKit
theorem kDB (W : World) : Below W.heap.size W W.drew := (Below.refl _ _).drew
theorem cutSt_le (c : UInt8) (l : List UInt8) : (∀ p ∈ (cutSt c l).1, p.length ≤ l.length) ∧ (cutSt c l).2.length ≤ l.length := by
  induction l using snoc_rec with
  | h0 => exact ⟨fun p h => absurd h (by simp [cutSt]), Nat.le_refl _⟩
  | h1 l x ih =>
    rw [cutSt_snoc]
    by_cases h : x = c
    · rw [if_pos h]
      refine ⟨fun p hp => ?_, by simp⟩
      simp only [List.mem_append, List.mem_singleton] at hp
      rcases hp with hp | rfl
      · have := ih.1 p hp; simp; omega
      · have := ih.2; simp; omega
    · rw [if_neg h]
      refine ⟨fun p hp => ?_, by have := ih.2; simp; omega⟩
      have := ih.1 p hp; simp; omega
theorem pieces_le {c : UInt8} {l : List UInt8} : ∀ p ∈ pieces c l, p.length ≤ l.length := by
  intro p hp
  unfold pieces at hp
  rcases List.mem_append.1 hp with hp | hp
  · exact (cutSt_le c l).1 p hp
  · simp at hp; subst hp; exact (cutSt_le c l).2
theorem pieces_pos {c : UInt8} {l : List UInt8} : 1 ≤ (pieces c l).length := by unfold pieces; simp
/-- pieces of a text -/
def PK (W : World) (A : Option Addr) (ps : List (List UInt8)) (n : Nat) : Prop := SlK encP 1 9 W A ps ∧ (∀ p ∈ ps, p.length ≤ n)
theorem PK.c {A : Option Addr} {ps : List (List UInt8)} {n : Nat} : KpC (fun W => PK W A ps n) := fun _ _ hk h => ⟨h.1.kp hk (by decide), h.2⟩
theorem PK.at_ {W : World} {A : Option Addr} {ps : List (List UInt8)} {n : Nat} (h : PK W A ps n) {i : Nat} (hi : i < ps.length) : ∃ (b o : Nat) (s : ByteArray), A = some ⟨b, o, none⟩ ∧ b < W.heap.size ∧ W.cell? ⟨b, o + i, none⟩ = some (.string s) ∧ s.size ≤ n := by
  obtain ⟨b, o, e, hb, hc⟩ := h.1.sl (by omega)
  have hx := List.getElem?_eq_getElem hi
  have h0 := hc i 0 _ hx (by decide)
  simp only [Nat.mul_one, Nat.add_zero] at h0
  refine ⟨b, o, ⟨(ps[i]).toArray⟩, e, hb, h0, ?_⟩
  have := h.2 ps[i] (List.getElem_mem hi)
  simpa [ByteArray.size] using this
/-- how AskRead leaves -/
def ReadPost (w : World) (e : Ending) (w' : World) : Prop := ∃ (x : AskV) (b : Bool), e = .returned (.tuple #[.agg #[.int .i64 x.1, .string x.2.1, .string x.2.2.1, .int .i64 x.2.2.2], .bool b]) ∧ x.2.1.size ≤ maxLen ∧ x.2.2.1.size ≤ maxLen ∧ Below w.heap.size w w'
set_option maxRecDepth 100000 in
set_option maxHeartbeats 16000000 in
theorem askRead_any (s : ByteArray) (w : World) (hs : s.size ≤ 1048576) : Calls Tryz.prog 65 #[.string s] w (ReadPost w) := by
  have hbE := allocAll_below w [(90, #[.int .i64 0, .string ⟨#[]⟩, .string ⟨#[]⟩, .int .i64 0])]
  have H : Hid (SP w [(w.heap.size, 90, #[.int .i64 0, .string ⟨#[]⟩, .string ⟨#[]⟩, .int .i64 0])] [] ((allocAll w [(90, #[.int .i64 0, .string ⟨#[]⟩, .string ⟨#[]⟩, .int .i64 0])]))) := Lib.hid (SP.start w [(90, #[.int .i64 0, .string ⟨#[]⟩, .string ⟨#[]⟩, .int .i64 0])])
  clear hbE
  go_enter Tryz.func65, Tryz.ntmps65
  go_wp2_with fail
  change Calls _ _ _ (allocAll w [(90, #[.int .i64 0, .string ⟨#[]⟩, .string ⟨#[]⟩, .int .i64 0])]) _
  generalize (allocAll w [(90, #[.int .i64 0, .string ⟨#[]⟩, .string ⟨#[]⟩, .int .i64 0])]) = w0 at *
  refine (pieces_any s w0 hs).mono ?_
  rintro e w1 ⟨v, rfl, ho1, hb1⟩
  have hps : ∀ p ∈ pieces 32 s.data.toList, p.length ≤ 1048576 := fun p hp => by have := pieces_le p hp; have := tl_len s; omega
  have hp1 := pieces_pos (c := 32) (l := s.data.toList)
  generalize pieces 32 s.data.toList = ps at *
  obtain ⟨AP, cP, rfl, _, _, _⟩ := Sl.of_own (enc := encP) (fun _ => rfl) ho1
  replace H : Hid (SP w [(w.heap.size, 90, #[.int .i64 0, .string ⟨#[]⟩, .string ⟨#[]⟩, .int .i64 0])] [fun W => PK W AP ps 1048576] w1) := Lib.hid (SP.add (H.out.kept hb1) _ PK.c (⟨SlK.of_own (fun _ => rfl) ho1, hps⟩))
  clear hb1 ho1 hps
  have H := Lib.hid (H.out.alloc 90 #[.int .i64 0, .string ⟨#[]⟩, .string ⟨#[]⟩, .int .i64 0])
  go_wp2
  generalize (w1.alloc (.cells #[.int .i64 0, .string ⟨#[]⟩, .string ⟨#[]⟩, .int .i64 0] 90)) = w2 at *
  have H : Hid (SP w [(w.heap.size, 90, #[.int .i64 0, .string ⟨#[]⟩, .string ⟨#[]⟩, .int .i64 0]), (w1.heap.size, 90, #[.int .i64 0, .string ⟨#[]⟩, .string ⟨#[]⟩, .int .i64 0])] [fun W => PK W AP ps 1048576] w2) := Lib.hid H.out
  generalize w1.heap.size = g1 at *
  go_loopw [6] (fun i wr => ∃ (k : Nat) (kd : Int), i = .int .i64 k ∧ 1 ≤ k ∧ k ≤ 10 ∧ Hid (SP w [(w.heap.size, 90, #[.int .i64 0, .string ⟨#[]⟩, .string ⟨#[]⟩, .int .i64 0]), (g1, 90, #[.int .i64 kd, .string ⟨#[]⟩, .string ⟨#[]⟩, .int .i64 0])] [fun W => PK W AP ps 1048576] wr)) (fun i _ => 10 - (intOf i).toNat)
  case atStart => exact ⟨1, 0, rfl, by omega, by omega, H⟩
  case round =>
    clear H
    obtain ⟨k, kd, rfl, hk1, hk10, HQ⟩ := hrel
    have H := Lib.hid HQ.out
    clear HQ
    by_cases hlt : k ≤ 9
    case pos =>
      have hki : (k : Int) ≤ 9 := by omega
      obtain ⟨b, o, p0, rfl, hbl, c0, hp0⟩ := PK.at_ (H.out.get 0 rfl) (show 0 < ps.length by omega)
      rw [Nat.add_zero] at c0
      have hpl : (0 : Int) < (ps.length : Int) := by omega
      go_wp2_with fail
      replace H := Lib.hid (H.out.kept (kDB wr))
      go_region_with (go_at_call 73; refine (l4Word_any k _ (by omega)).mono ?_; rintro e wk ⟨s4, rfl, hs4, hbk⟩; have c0k : wk.cell? ⟨b, o, none⟩ = some (.string p0) := (hbk.cell (p := ⟨b, o, none⟩) hbl).trans c0; replace H := Lib.hid (H.out.kept hbk); have HBL := Lib.hid (Nat.lt_of_lt_of_le hbl hbk.size); clear hbk)
      all_goals
        clear c0
        cases hq : (s4.toList == p0.toList)
        case false =>
          go_wp2
          go_roundw
          case rel => exact ⟨k + 1, kd, by go_num, by omega, by omega, H⟩
          case measure => simp [intOf]; omega
        obtain ⟨x1_0, x1_1, x1_2, x1_3⟩ := Blk.q4 (H.out.blk 1 rfl)
        obtain ⟨z1_0, z1_1, z1_2, z1_3⟩ := Blk.z4 (H.out.blk 1 rfl)
        have HZ := Lib.hid (SP.set H.out 1 0 (.int .i64 (k : Int)) rfl (by decide))
        go_wp2
        go_roundw
        case rel => exact ⟨k + 1, k, by go_num, by omega, by omega, HZ⟩
        case measure => simp [intOf]; omega
    have hki : ¬ (k : Int) ≤ 9 := by omega
    obtain ⟨x1_0, x1_1, x1_2, x1_3⟩ := Blk.q4 (H.out.blk 1 rfl)
    go_wp2_with fail
    refine (l4Shape_any kd _).mono ?_
    rintro e w3 ⟨rfl, hb3⟩
    replace H := Lib.hid (H.out.kept hb3)
    clear x1_0 x1_1 x1_2 x1_3 hb3
    generalize shapeK kd = s3 at *
    obtain ⟨s1, s2, s3⟩ := s3
    simp only
    go_upto_region 9 with fail
    go_cut [37] (fun vx wx => ∃ bv : Bool, vx = .bool bv ∧ (bv = true → 1 < ps.length) ∧ Hid (SP w [(w.heap.size, 90, #[.int .i64 0, .string ⟨#[]⟩, .string ⟨#[]⟩, .int .i64 0]), (g1, 90, #[.int .i64 kd, .string ⟨#[]⟩, .string ⟨#[]⟩, .int .i64 0])] [fun W => PK W AP ps 1048576] wx))
    case first =>
      by_cases hln : 1 < ps.length
      case pos =>
        have hli : (1 : Int) < (ps.length : Int) := by omega
        cases s1
        all_goals
          go_wp2
          go_meet
          exact ⟨_, rfl, fun _ => hln, H⟩
      have hli : ¬ (1 : Int) < (ps.length : Int) := by omega
      have hlj : decide ((1 : Int) < (ps.length : Int)) = false := decide_eq_false hli
      cases s1
      all_goals
        go_wp2
        go_meet
        exact ⟨false, by first | rfl | simp, fun h => absurd h (by simp), H⟩
    case rest =>
      obtain ⟨bv, rfl, hbv, HQ⟩ := hcut
      clear H
      have H := Lib.hid HQ.out
      clear HQ
      go_upto_if 37 with fail
      go_cut [] (fun wx => ∃ ka : ByteArray, ka.size ≤ maxLen ∧ Hid (SP w [(w.heap.size, 90, #[.int .i64 0, .string ⟨#[]⟩, .string ⟨#[]⟩, .int .i64 0]), (g1, 90, #[.int .i64 kd, .string ka, .string ⟨#[]⟩, .int .i64 0])] [fun W => PK W AP ps 1048576] wx))
      case first =>
        cases bv
        case false =>
          go_wp2
          go_meet
          exact ⟨_, Nat.zero_le _, H⟩
        have hln := hbv rfl
        have hli : (1 : Int) < (ps.length : Int) := by omega
        obtain ⟨b, o, p0, rfl, hbl, c0, hp0⟩ := PK.at_ (H.out.get 0 rfl) hln
        obtain ⟨x1_0, x1_1, x1_2, x1_3⟩ := Blk.q4 (H.out.blk 1 rfl)
        obtain ⟨z1_0, z1_1, z1_2, z1_3⟩ := Blk.z4 (H.out.blk 1 rfl)
        have HZ := Lib.hid (SP.set H.out 1 1 (.string p0) rfl (by decide))
        go_wp2
        go_meet
        exact ⟨p0, by unfold maxLen; omega, HZ⟩
      case rest =>
        obtain ⟨ka, hs1, HQ⟩ := hcut
        clear H
        have H := Lib.hid HQ.out
        clear HQ hbv
        go_upto_region 11 with fail
        go_cut [47] (fun vx wx => ∃ bv : Bool, vx = .bool bv ∧ (bv = true → 2 < ps.length) ∧ Hid (SP w [(w.heap.size, 90, #[.int .i64 0, .string ⟨#[]⟩, .string ⟨#[]⟩, .int .i64 0]), (g1, 90, #[.int .i64 kd, .string ka, .string ⟨#[]⟩, .int .i64 0])] [fun W => PK W AP ps 1048576] wx))
        case first =>
          by_cases hln : 2 < ps.length
          case pos =>
            have hli : (2 : Int) < (ps.length : Int) := by omega
            cases s2
            all_goals
              go_wp2
              go_meet
              exact ⟨_, rfl, fun _ => hln, H⟩
          have hli : ¬ (2 : Int) < (ps.length : Int) := by omega
          have hlj : decide ((2 : Int) < (ps.length : Int)) = false := decide_eq_false hli
          cases s2
          all_goals
            go_wp2
            go_meet
            exact ⟨false, by first | rfl | simp, fun h => absurd h (by simp), H⟩
        case rest =>
          obtain ⟨bv, rfl, hbv, HQ⟩ := hcut
          clear H
          have H := Lib.hid HQ.out
          clear HQ
          go_upto_if 47 with fail
          go_cut [] (fun wx => ∃ kb : ByteArray, kb.size ≤ maxLen ∧ Hid (SP w [(w.heap.size, 90, #[.int .i64 0, .string ⟨#[]⟩, .string ⟨#[]⟩, .int .i64 0]), (g1, 90, #[.int .i64 kd, .string ka, .string kb, .int .i64 0])] [fun W => PK W AP ps 1048576] wx))
          case first =>
            cases bv
            case false =>
              go_wp2
              go_meet
              exact ⟨_, Nat.zero_le _, H⟩
            have hln := hbv rfl
            have hli : (2 : Int) < (ps.length : Int) := by omega
            obtain ⟨b, o, p0, rfl, hbl, c0, hp0⟩ := PK.at_ (H.out.get 0 rfl) hln
            obtain ⟨x1_0, x1_1, x1_2, x1_3⟩ := Blk.q4 (H.out.blk 1 rfl)
            obtain ⟨z1_0, z1_1, z1_2, z1_3⟩ := Blk.z4 (H.out.blk 1 rfl)
            have HZ := Lib.hid (SP.set H.out 1 2 (.string p0) rfl (by decide))
            go_wp2
            go_meet
            exact ⟨p0, by unfold maxLen; omega, HZ⟩
          case rest =>
            obtain ⟨kb, hs2, HQ⟩ := hcut
            clear H
            have H := Lib.hid HQ.out
            clear HQ hbv
            go_upto_region 13 with fail
            go_cut [57] (fun vx wx => ∃ bv : Bool, vx = .bool bv ∧ (bv = true → 2 < ps.length) ∧ Hid (SP w [(w.heap.size, 90, #[.int .i64 0, .string ⟨#[]⟩, .string ⟨#[]⟩, .int .i64 0]), (g1, 90, #[.int .i64 kd, .string ka, .string kb, .int .i64 0])] [fun W => PK W AP ps 1048576] wx))
            case first =>
              by_cases hln : 2 < ps.length
              case pos =>
                have hli : (2 : Int) < (ps.length : Int) := by omega
                cases s3
                all_goals
                  go_wp2
                  go_meet
                  exact ⟨_, rfl, fun _ => hln, H⟩
              have hli : ¬ (2 : Int) < (ps.length : Int) := by omega
              have hlj : decide ((2 : Int) < (ps.length : Int)) = false := decide_eq_false hli
              cases s3
              all_goals
                go_wp2
                go_meet
                exact ⟨false, by first | rfl | simp, fun h => absurd h (by simp), H⟩
            case rest =>
              obtain ⟨bv, rfl, hbv, HQ⟩ := hcut
              clear H
              have H := Lib.hid HQ.out
              clear HQ
              go_upto_if 57 with fail
              go_cut [] (fun wx => ∃ kn : Int, Hid (SP w [(w.heap.size, 90, #[.int .i64 0, .string ⟨#[]⟩, .string ⟨#[]⟩, .int .i64 0]), (g1, 90, #[.int .i64 kd, .string ka, .string kb, .int .i64 kn])] [fun W => PK W AP ps 1048576] wx))
              case first =>
                cases bv
                case false =>
                  go_wp2
                  go_meet
                  exact ⟨_, H⟩
                have hln := hbv rfl
                have hli : (2 : Int) < (ps.length : Int) := by omega
                obtain ⟨b, o, p0, rfl, hbl, c0, hp0⟩ := PK.at_ (H.out.get 0 rfl) hln
                obtain ⟨x1_0, x1_1, x1_2, x1_3⟩ := Blk.q4 (H.out.blk 1 rfl)
                obtain ⟨z1_0, z1_1, z1_2, z1_3⟩ := Blk.z4 (H.out.blk 1 rfl)
                clear x1_0 x1_1 x1_2 x1_3 z1_0 z1_1 z1_2 z1_3
                go_wp2_with fail
                refine (l11Num_any p0 _ (by omega)).mono ?_
                rintro e wn ⟨⟨n, rfl⟩, rfl⟩
                obtain ⟨x1_0, x1_1, x1_2, x1_3⟩ := Blk.q4 (H.out.blk 1 rfl)
                obtain ⟨z1_0, z1_1, z1_2, z1_3⟩ := Blk.z4 (H.out.blk 1 rfl)
                have HZ := Lib.hid (SP.set H.out 1 3 (.int .i64 n) rfl (by decide))
                go_wp2
                go_meet
                exact ⟨n, HZ⟩
              case rest =>
                obtain ⟨kn, HQ⟩ := hcut
                clear H
                have H := Lib.hid HQ.out
                clear HQ hbv
                by_cases h0 : s.size = 0
                case pos =>
                  have hse : (s.toList == []) = true := by rw [beq_iff_eq, ByteArray.toList_eq]; exact List.eq_nil_of_length_eq_zero (by rw [tl_len]; exact h0)
                  obtain ⟨x0_0, x0_1, x0_2, x0_3⟩ := Blk.q4 (H.out.blk 0 rfl)
                  obtain ⟨z0_0, z0_1, z0_2, z0_3⟩ := Blk.z4 (H.out.blk 0 rfl)
                  have HZ := Lib.hid (SP.set (SP.set (SP.set (SP.set (H.out) 0 0 (.int .i64 0) rfl (by decide)) 0 1 (.string ⟨#[]⟩) rfl (by decide)) 0 2 (.string ⟨#[]⟩) rfl (by decide)) 0 3 (.int .i64 0) rfl (by decide))
                  clear H
                  go_wp2
                  refine bodyPost_ret (v := .tuple #[.agg #[.int .i64 0, .string ⟨#[]⟩, .string ⟨#[]⟩, .int .i64 0], .bool false]) ?_ rfl (⟨(0, ⟨#[]⟩, ⟨#[]⟩, 0), false, rfl, Nat.zero_le _, Nat.zero_le _, HZ.out.below⟩)
                  simp [results, Tryz.results65, go_sem, x0_0, x0_1, x0_2, x0_3]
                have hse : (s.toList == []) = false := by rw [beq_eq_false_iff_ne, ne_eq, ByteArray.toList_eq]; intro h; have := tl_len s; rw [h] at this; simp at this; omega
                obtain ⟨x1_0, x1_1, x1_2, x1_3⟩ := Blk.q4 (H.out.blk 1 rfl)
                go_wp2_with fail
                refine (specAskText_any (kd, ka, kb, kn) _ hs1 hs2).mono ?_
                rintro e w9 ⟨s9, rfl, hs9, -, hb9⟩
                replace H := Lib.hid (H.out.kept hb9)
                clear x1_0 x1_1 x1_2 x1_3 hb9
                cases hq : (s9.toList == s.toList)
                case false =>
                  obtain ⟨x0_0, x0_1, x0_2, x0_3⟩ := Blk.q4 (H.out.blk 0 rfl)
                  obtain ⟨z0_0, z0_1, z0_2, z0_3⟩ := Blk.z4 (H.out.blk 0 rfl)
                  have HZ := Lib.hid (SP.set (SP.set (SP.set (SP.set (H.out) 0 0 (.int .i64 0) rfl (by decide)) 0 1 (.string ⟨#[]⟩) rfl (by decide)) 0 2 (.string ⟨#[]⟩) rfl (by decide)) 0 3 (.int .i64 0) rfl (by decide))
                  clear H
                  go_wp2
                  refine bodyPost_ret (v := .tuple #[.agg #[.int .i64 0, .string ⟨#[]⟩, .string ⟨#[]⟩, .int .i64 0], .bool false]) ?_ rfl (⟨(0, ⟨#[]⟩, ⟨#[]⟩, 0), false, rfl, Nat.zero_le _, Nat.zero_le _, HZ.out.below⟩)
                  simp [results, Tryz.results65, go_sem, x0_0, x0_1, x0_2, x0_3]
                obtain ⟨x1_0, x1_1, x1_2, x1_3⟩ := Blk.q4 (H.out.blk 1 rfl)
                obtain ⟨x0_0, x0_1, x0_2, x0_3⟩ := Blk.q4 (H.out.blk 0 rfl)
                obtain ⟨z0_0, z0_1, z0_2, z0_3⟩ := Blk.z4 (H.out.blk 0 rfl)
                have HZ := Lib.hid (SP.set (SP.set (SP.set (SP.set (H.out) 0 0 (.int .i64 kd) rfl (by decide)) 0 1 (.string ka) rfl (by decide)) 0 2 (.string kb) rfl (by decide)) 0 3 (.int .i64 kn) rfl (by decide))
                clear H
                go_wp2
                refine bodyPost_ret (v := .tuple #[.agg #[.int .i64 kd, .string ka, .string kb, .int .i64 kn], .bool true]) ?_ rfl (⟨(kd, ka, kb, kn), true, rfl, hs1, hs2, HZ.out.below⟩)
                simp [results, Tryz.results65, go_sem, x0_0, x0_1, x0_2, x0_3]
end Go.Proofs.YtfmhhckkpenldaaGreatDoor
