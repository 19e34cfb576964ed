/- Copies of rows of rows of writes, in memory of one's own; marking them. -/
import Derived.Test.YteanjfjlmpgnnaaWriSS
import Derived.Test.YteanjfjlmpgnnaaWrMk
import Derived.Lib.SmallJoins
namespace Go.Proofs.Yteanjfjlmpgnnaa
open Go.RowKit
/-- each row lies in memory of the call's own -/
def OwnRs (w : World) (B : Nat) (rs : List Wrow) : Prop := ∀ r ∈ rs, ∃ xs, w.ownsRow B 46 3 (.slice r.1 r.2.2.length r.2.1) r.2.2.length xs
theorem ownW_set {w : World} {B n k : Nat} {e : TypeId} {v : Value} {xs : List Value} (h : w.ownsRow B e k v n xs) {p : Addr} (hp : p.block < B) (u : Value) : (w.setCell p u).ownsRow B e k v n xs := by
  refine h.kept (row := some p.block) ⟨rfl, rfl, rfl, by rw [World.size_setCell]; exact Nat.le_refl _, fun j _ hne => Below.heap_setCell w p u j (fun e => hne (by rw [e]))⟩ ?_
  cases hv : v.ownBlock with
  | none => exact .inl rfl
  | some j => exact .inr (by have := (h.lt j hv).1; intro he; injection he; omega)
/-- a row stays one's own where another, of the same block or not, is written -/
theorem own_again {w w' : World} {B s n n1 : Nat} {T : TypeId} {A : Option Addr} {cap : Nat} {v1 : Value} {xs x1 y1 : List Value} (hs : 0 < s) (h : w.ownsRow B T s (.slice A n cap) n xs) (h1 : w.ownsRow B T s v1 n1 x1) (h2 : w'.ownsRow B T s v1 n1 y1) (hg : w.grownBy w' v1.ownBlock) :
    ∃ ys, w'.ownsRow B T s (.slice A n cap) n ys := by
  rcases h.2 with ⟨e, h0⟩ | ⟨g, cap', cur, e, hb, hh, hn, hm, hz, ht⟩
  · exact ⟨xs, h.1, .inl ⟨e, h0⟩⟩
  · injection e with e1 e2 e3
    subst e1; subst e3
    by_cases hv : some g = v1.ownBlock
    · rcases h1.2 with ⟨e4, _⟩ | ⟨g1, cap1, cur1, e4, hb1, hh1, hn1, hm1, hz1, ht1⟩
      · subst e4; simp [Value.ownBlock] at hv
      · subst e4
        simp [Value.ownBlock] at hv
        subst hv
        rw [hh] at hh1
        injection hh1 with hh1
        injection hh1 with hc _
        subst hc
        have hcc : cap = cap1 := Nat.eq_of_mul_eq_mul_right hs (hz.symm.trans hz1)
        subst hcc
        rcases h2.2 with ⟨e5, _⟩ | ⟨g2, cap2, cur2, e5, hb2, hh2, hn2, hm2, hz2, ht2⟩
        · cases e5
        · injection e5 with e6 e7 e8
          injection e6 with e9
          injection e9 with e10
          subst e10; subst e8
          refine ⟨(cur2.toList.take (n * s)), by rw [List.length_take, Array.length_toList, hz2, Nat.min_eq_left (Nat.mul_le_mul_right _ hn)], .inr ⟨g, cap, cur2, rfl, hb, hh2, hn, hm, hz2, rfl⟩⟩
    · exact ⟨xs, h.1, .inr ⟨g, cap, cur, rfl, hb, (hg.block g (by
        rcases Nat.lt_or_ge g w.heap.size with hlt | hge
        · exact hlt
        · rw [Array.getElem?_eq_none hge] at hh; cases hh) hv).trans hh, hn, hm, hz, ht⟩⟩
/-- only what lies from B to N may have turned -/
def MK (B N : Nat) (w w' : World) : Prop := w'.os = w.os ∧ w'.tape = w.tape ∧ w'.output = w.output ∧ w.heap.size ≤ w'.heap.size ∧ ∀ k, k < w.heap.size → (k < B ∨ N ≤ k) → w'.heap[k]? = w.heap[k]?
theorem MK.refl (B N : Nat) (w : World) : MK B N w w := ⟨rfl, rfl, rfl, Nat.le_refl _, fun _ _ _ => rfl⟩
theorem MK.grown {B N : Nat} {w w1 w2 : World} {r : Option Nat} (h : MK B N w w1) (hg : w1.grownBy w2 r) (hr : ∀ j, r = some j → B ≤ j ∧ j < N) : MK B N w w2 := by
  obtain ⟨h1, h2, h3, h4, h5⟩ := h
  refine ⟨hg.os.trans h1, hg.tape.trans h2, hg.output.trans h3, Nat.le_trans h4 hg.size, fun k hk ho => ?_⟩
  exact (hg.block k (by omega) (fun e => by have := hr k e.symm; omega)).trans (h5 k hk ho)
theorem MK.blk {B N g : Nat} {w w' : World} {T : TypeId} {cs : Array Value} (h : MK B N w w') (hb : Blk w g T cs) (ho : g < B ∨ N ≤ g) : Blk w' g T cs := (h.2.2.2.2 g hb.lt ho).trans hb
theorem MK.own {B N B2 s n : Nat} {w w' : World} {T : TypeId} {v : Value} {xs : List Value} (h : MK B N w w') (ho : w.ownsRow B2 T s v n xs) (hv : ∀ j, v.ownBlock = some j → j < B ∨ N ≤ j) : w'.ownsRow B2 T s v n xs := by
  refine ⟨ho.1, ?_⟩
  rcases ho.2 with h2 | ⟨g, cap, cur, e, hg, hh, r⟩
  · exact .inl h2
  · subst e
    have hlt : g < w.heap.size := by
      rcases Nat.lt_or_ge g w.heap.size with hlt | hge
      · exact hlt
      · rw [Array.getElem?_eq_none hge] at hh; cases hh
    exact .inr ⟨g, cap, cur, rfl, hg, (h.2.2.2.2 g hlt (hv g rfl)).trans hh, r⟩
theorem MK.below {B N B2 : Nat} {w0 w w' : World} (h : MK B N w w') (hb : Below B2 w0 w) (hB : B2 ≤ B) (hs : B2 ≤ w.heap.size) : Below B2 w0 w' :=
  ⟨h.1.trans hb.os, h.2.1.trans hb.tape, h.2.2.1.trans hb.output, Nat.le_trans hb.size h.2.2.2.1, fun k hk => (h.2.2.2.2 k (by omega) (.inl (by omega))).trans (hb.block k hk)⟩
def lens (rs : List Wrow) : Nat := (rs.map (fun r => r.2.2.length)).sum
theorem lens_take (rs : List Wrow) (k : Nat) (h : k < rs.length) : lens (rs.take (k+1)) = lens (rs.take k) + rs[k].2.2.length := by
  unfold lens; rw [List.take_succ_eq_append_getElem h, List.map_append, List.sum_append]; simp
theorem lens_le (rs : List Wrow) (k : Nat) : lens (rs.take k) ≤ lens rs := by
  have e : lens rs = lens (rs.take k) + lens (rs.drop k) := by
    unfold lens; rw [← List.sum_append, ← List.map_append, List.take_append_drop]
  omega
set_option maxHeartbeats 1000000 in
theorem markWriteSS_any (b B N c : Nat) (qs : List Wrow) (k : Nat) (w : World) (hbB : b < B) (hB : B ≤ w.heap.size) (hk : k + 3 * lens qs < 4611686018427387904) (hls : lens qs ≤ 1073741824) (hn : qs.length ≤ 1073741824) (hS : Sl encWrow 1 w (some ⟨b, 0, none⟩) qs) (hO : OwnRs w B qs) (hN : ∀ r ∈ qs, ∀ j, (Value.slice r.1 r.2.2.length r.2.1).ownBlock = some j → j < N) :
    Calls Try.prog 44 #[.slice (some ⟨b, 0, none⟩) qs.length c, .int .i64 k] w fun e w' => e = .returned (.int .i64 (k + 3 * lens qs : Nat)) ∧ MK B N w w' := by
  have HN := Lib.hid hN
  have HO0 := Lib.hid hO
  have HS := Lib.hid hS
  clear hN hO hS
  go_enter Try.func44, Try.ntmps44
  go_wp2
  go_loopw [1, 5] (fun a i wr => ∃ j : Nat, j ≤ qs.length ∧ a = .int .i64 (k + 3 * lens (qs.take j) : Nat) ∧ i = .int .i64 j ∧ Hid (OwnRs wr B qs) ∧ Hid (MK B N w wr)) (fun _ i _ => qs.length - (intOf i).toNat)
  case atStart => exact ⟨0, by omega, rfl, rfl, HO0.out, MK.refl _ _ _⟩
  case round =>
    obtain ⟨j, hj, rfl, rfl, HO, HM⟩ := hrel
    by_cases hlt : j < qs.length
    · obtain ⟨b', o', e, hbl, c0⟩ := Sl.at1 (f := fun r : Wrow => .slice r.1 r.2.2.length r.2.1) HS.out hlt
      simp at e
      obtain ⟨rfl, rfl⟩ := e
      have c1 : wr.cell? ⟨b, j, none⟩ = some (.slice qs[j].1 qs[j].2.2.length qs[j].2.1) := by
        rw [World.cell?_of_block (a := ⟨b, j, none⟩) (HM.out.2.2.2.2 b (by omega) (.inl hbB))]
        simpa using c0
      have HL := Lib.hid (lens_take qs j hlt)
      have hle := lens_le qs (j + 1)
      rw [lens_take qs j hlt] at hle
      obtain ⟨xs, hox⟩ := HO.out qs[j] (List.getElem_mem hlt)
      have HNj := Lib.hid (HN.out qs[j] (List.getElem_mem hlt))
      clear c0
      generalize qs[j] = r at *
      obtain ⟨Ar, cr, lr⟩ := r
      simp only at c1 hle hox
      have hlr : lr.length ≤ lens qs := by omega
      have hwr := HM.out.2.2.2.1
      have HMW := Lib.hid (markW_own B Ar cr lr.length xs (k + 3 * lens (qs.take j)) wr (by omega) (by omega) (by omega) hox)
      have HOX := Lib.hid hox
      clear hox hlr
      go_wp2_with fail
      refine HMW.out.mono ?_
      rintro e w1 ⟨rfl, ⟨ys, hoy⟩, hg⟩
      have HO2 := Lib.hid (show OwnRs w1 B qs from fun r2 hr2 => by
        obtain ⟨x2, h2⟩ := HO.out r2 hr2
        exact own_again (by decide) h2 HOX.out hoy hg)
      have HM2 := Lib.hid (HM.out.grown hg (fun i hi => ⟨(HOX.out.lt i hi).1, HNj.out i hi⟩))
      clear hoy hg HMW
      have e1 : k + 3 * lens (qs.take j) + 3 * lr.length = k + 3 * lens (qs.take (j + 1)) := by rw [HL.out]; show _ = k + 3 * (lens (qs.take j) + lr.length); omega
      rw [e1]
      clear e1
      go_wp2
      go_roundw
      case rel => exact ⟨j + 1, by omega, rfl, by go_num, HO2.out, HM2.out⟩
      case measure => simp [intOf]; omega
    · obtain rfl : j = qs.length := by omega
      rw [List.take_length]
      go_wp2
      go_ret
      exact ⟨rfl, HM.out⟩
end Go.Proofs.Yteanjfjlmpgnnaa
