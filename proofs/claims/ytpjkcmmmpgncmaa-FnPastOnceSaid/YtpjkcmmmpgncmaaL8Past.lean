/- The reference's l8Past: what was done, at each time, is drawn. -/
import Derived.Test.YtpjkcmmmpgncmaaSPastAll
import Derived.Test.YtpjkcmmmpgncmaaL2Some
import Derived.Test.YtpjkcmmmpgncmaaL2Bent
import Derived.Deep.RegionLaw
import Derived.Deep.Cut
import Derived.Deep.DeepCutAuto
namespace Go.Proofs.Ytpjkcmmmpgncmaa
open Go.RowKit
/-- rows of writes that read as lists -/
def RS (W : World) (A : Option Addr) (qs : List Wrow) (c : Nat) : Prop := Sl2 W A qs ∧ (∀ r ∈ qs, FitsW r.2.2 ∧ r.2.2.length ≤ 121 ∧ r.2.2.length ≤ r.2.1 ∧ r.2.1 ≤ maxLen) ∧ qs.length ≤ c ∧ c ≤ maxLen
theorem RS.of {W : World} {B c : Nat} {A : Option Addr} {qs : List Wrow} (h : W.ownsRow B 41 1 (.slice A qs.length c) qs.length (qs.flatMap encWrow)) (h2 : ∀ r ∈ qs, OwnW W B (.slice r.1 r.2.2.length r.2.1) r.2.2 ∧ FitsW r.2.2 ∧ r.2.2.length ≤ 121) : RS W A qs c := by
  obtain ⟨A', c', e, h3, h4, h5⟩ := Sl.of_own encWrow_len h
  injection e with e1 e2 e3
  subst e1; subst e3
  refine ⟨⟨h5, fun r hr => (h2 r hr).1.reads⟩, fun r hr => ?_, h3, h4⟩
  obtain ⟨A6, c6, e, h6, h7, _⟩ := (h2 r hr).1.sl
  injection e with e1 e2 e3
  exact ⟨(h2 r hr).2.1, (h2 r hr).2.2, by omega, by omega⟩
theorem QS.rs {W : World} {B c : Nat} {A : Option Addr} {qs : List Wrow} (h : QS W B (.slice A qs.length c) qs) : RS W A qs c := RS.of h.1 (fun r hr => ⟨h.2.1 r hr, (h.2.2.2 r hr).1, Nat.le_trans (h.2.2.2 r hr).2 (by omega)⟩)
theorem RS.drop {W : World} {go c k : Nat} {qs : List Wrow} (h : RS W (some ⟨go, 0, none⟩) qs c) (hk : k ≤ qs.length) : RS W (some ⟨go, k, none⟩) (qs.drop k) (c - k) := by
  obtain ⟨⟨h1, h2⟩, h3, h4, h5⟩ := h
  refine ⟨⟨fun hl => ?_, fun r hr => h2 r (List.mem_of_mem_drop hr)⟩, fun r hr => h3 r (List.mem_of_mem_drop hr), by rw [List.length_drop]; omega, by omega⟩
  rw [List.length_drop] at hl
  obtain ⟨b, o, e, hb, hc⟩ := h1 (by omega)
  simp at e
  obtain ⟨rfl, rfl⟩ := e
  refine ⟨go, k, rfl, hb, fun i j x hx hj => ?_⟩
  rw [List.getElem?_drop] at hx
  have := hc (k + i) j x hx hj
  rw [show k + i * 1 + j = 0 + (k + i) * 1 + j by omega]
  exact this
theorem set_flatQ (r' : Wrow) : ∀ (l : List Wrow) (m : Nat), m < l.length → (l.flatMap encWrow).set m (.slice r'.1 r'.2.2.length r'.2.1) = (l.set m r').flatMap encWrow
  | [], _, h => by simp at h
  | x :: l, 0, _ => by simp [encWrow]
  | x :: l, m + 1, h => by
    have ih := set_flatQ r' l m (by simpa using h)
    rw [List.set_cons_succ, List.flatMap_cons, List.flatMap_cons, ← ih]
    simp [encWrow]
/-- a row put in the place of another -/
theorem QS.put {W W' : World} {B go c k : Nat} {qs : List Wrow} {r r' : Wrow} (h : QS W B (.slice (some ⟨go, 0, none⟩) qs.length c) qs) (hk : qs[k]? = some r) (hg : W.grownBy W' (Value.slice r.1 r.2.2.length r.2.1).ownBlock) (ho : OwnW W' B (.slice r'.1 r'.2.2.length r'.2.1) r'.2.2) (hf : FitsW r'.2.2 ∧ r'.2.2.length ≤ 121) :
    RS (W'.setCell ⟨go, k, none⟩ (.slice r'.1 r'.2.2.length r'.2.1)) (some ⟨go, 0, none⟩) (qs.set k r') c := by
  obtain ⟨h1, h2, h3, h4⟩ := h
  have hkl : k < qs.length := (List.getElem?_eq_some_iff.1 hk).1
  have hrk : r ∈ qs := List.mem_of_getElem? hk
  have h1' := own_farW h1 hg (own_apart h1 (h2 r hrk) (by decide))
  have hst := World.ownsRow.stored h1' k (.slice r'.1 r'.2.2.length r'.2.1)
  have hq := hst.1
  rw [set_flatQ r' qs k hkl] at hq
  have hl : (qs.set k r').length = qs.length := List.length_set
  refine RS.of (B := B) (by rw [hl]; exact hq) (fun s hs => ?_)
  have keep : ∀ (v : Value) (n : Nat) (xs : List Value), W'.ownsRow B 46 3 v n xs → (W'.setCell ⟨go, k, none⟩ (.slice r'.1 r'.2.2.length r'.2.1)).ownsRow B 46 3 v n xs := fun v n xs hv =>
    own_farW (v2 := .slice (some ⟨go, 0, none⟩) qs.length c) hv hst.2 (own_apart hv h1' (by decide))
  obtain ⟨i, hi⟩ := List.getElem?_of_mem hs
  by_cases hik : i = k
  · subst hik
    rw [List.getElem?_set_self hkl] at hi
    injection hi with hi
    subst hi
    exact ⟨keep _ _ _ ho, hf⟩
  · rw [List.getElem?_set_ne (Ne.symm hik)] at hi
    have hsm : s ∈ qs := List.mem_of_getElem? hi
    refine ⟨keep _ _ _ (own_farW (h2 s hsm) hg (fun j e1 e2 => ?_)), (h4 s hsm).1, Nat.le_trans (h4 s hsm).2 (by omega)⟩
    have hil : i < qs.length := (List.getElem?_eq_some_iff.1 hi).1
    have hp := List.pairwise_iff_getElem.1 h3
    have e3 := (List.getElem?_eq_some_iff.1 hi).2
    have e4 := (List.getElem?_eq_some_iff.1 hk).2
    rcases Nat.lt_or_gt_of_ne hik with hlt | hgt
    · have := hp i k hil hkl hlt j (by rw [e3]; exact e1)
      rw [e4] at this
      exact this e2
    · have := hp k i hkl hil hgt j (by rw [e4]; exact e2)
      rw [e3] at this
      exact this e1
theorem outer_cellAt {W : World} {B go c k : Nat} {qs : List Wrow} {r : Wrow} (h : W.ownsRow B 41 1 (.slice (some ⟨go, 0, none⟩) qs.length c) qs.length (qs.flatMap encWrow)) (hk : qs[k]? = some r) : W.cell? ⟨go, k, none⟩ = some (.slice r.1 r.2.2.length r.2.1) := by
  obtain ⟨A', c', e, _, _, h5⟩ := Sl.of_own encWrow_len h
  injection e with e1 e2 e3
  subst e1
  obtain ⟨b, o, e, hb, hc⟩ := h5 (by have := (List.getElem?_eq_some_iff.1 hk).1; omega)
  simp at e
  obtain ⟨rfl, rfl⟩ := e
  have := hc k 0 r hk (by decide)
  simpa [encWrow] using this
theorem QS.cellAt {W : World} {B go c k : Nat} {qs : List Wrow} {r : Wrow} (h : QS W B (.slice (some ⟨go, 0, none⟩) qs.length c) qs) (hk : qs[k]? = some r) : W.cell? ⟨go, k, none⟩ = some (.slice r.1 r.2.2.length r.2.1) := outer_cellAt h.1 hk
theorem QS.draw {W W' : World} {B g : Nat} {v : Value} {qs : List Wrow} (h : QS W B v qs) (hg : W.grownBy W' (some g)) (hgB : g < B) : QS W' B v qs := ⟨own_gr h.1 hg hgB, fun r hr => own_gr (h.2.1 r hr) hg hgB, h.2.2⟩
/-- what stands while a history is drawn -/
def LP (w0 w : World) (A : Option Addr) (bs : List UInt8) (c g B : Nat) (v : Value) (qs : List Wrow) (q : Nat) (W : World) : Prop := QS W B v qs ∧ Rd w0 W A bs c g q ∧ w.grownBy W (some g)
theorem LP.below {w0 w : World} {A : Option Addr} {bs : List UInt8} {c g B : Nat} {v : Value} {qs : List Wrow} {q : Nat} {W W' : World} (h : LP w0 w A bs c g B v qs q W) (hb : Below W.heap.size W W') : LP w0 w A bs c g B v qs q W' := ⟨h.1.below hb, h.2.1.below hb, gr_trans h.2.2 (gr_below hb)⟩
theorem LP.draw {w0 w : World} {A : Option Addr} {bs : List UInt8} {c g B : Nat} {v : Value} {qs : List Wrow} {q q' : Nat} {W W' : World} (h : LP w0 w A bs c g B v qs q W) (hR : Rd w0 W' A bs c g q') (hg : W.grownBy W' (some g)) (hgB : g < B) : LP w0 w A bs c g B v qs q' W' := ⟨h.1.draw hg hgB, hR, gr_trans h.2.2 hg⟩
theorem Sl.litSa (w : World) (t : TypeId) (l : List ByteArray) (cs : Array Value) (h : cs.toList = l.map Value.string) (a : Nat) (ha : a = w.heap.size) : Sl (fun x => [.string x]) 1 (w.alloc (.cells cs t)) (some ⟨a, 0, none⟩) l := by rw [ha]; exact Sl.litS w t l cs h
theorem Sl.litNa (w : World) (t : TypeId) (l : List Int) (cs : Array Value) (h : cs.toList = l.map (Value.int .i64)) (a : Nat) (ha : a = w.heap.size) : Sl (fun x => [.int .i64 x]) 1 (w.alloc (.cells cs t)) (some ⟨a, 0, none⟩) l := by rw [ha]; exact Sl.litN w t l cs h
theorem bA (W : World) (o : Obj) : Below W.heap.size W (W.alloc o) := (Below.refl _ _).alloc (Nat.le_refl _) _
theorem bD (W : World) : Below W.heap.size W W.drew := (Below.refl _ _).drew
theorem bAD (W : World) (o : Obj) : Below W.heap.size W (W.alloc o).drew := (bA W o).drew
theorem bAAD (W : World) (o o2 : Obj) : Below W.heap.size W ((W.alloc o).alloc o2).drew := ((bA W o).alloc (by simp) _).drew
def keysP : List ByteArray := [⟨#[]⟩, ⟨#[97]⟩, ⟨#[122, 122]⟩]
def numsP : List Int := [0, 1000]
theorem keysP_le : ∀ x ∈ keysP, x.size ≤ 2 := by decide
set_option maxRecDepth 100000 in
set_option maxHeartbeats 6000000 in
theorem l8Past_any (w0 : World) (A : Option Addr) (bs : List UInt8) (c g p : Nat) (w : World) (hR : Rd w0 w A bs c g p) (hp : p < 50000) :
    Calls Try.prog 61 #[.pointer (some ⟨g, 0, none⟩)] w fun e w' => ∃ (qs : List Wrow) (A' : Option Addr) (c' q : Nat), e = .returned (.slice A' qs.length c') ∧ RS w' A' qs c' ∧ qs.length ≤ 41 ∧ q ≤ p + 4000 ∧ Rd w0 w' A bs c g q ∧ w.grownBy w' (some g) := by
  obtain ⟨i0, hi, hz0, hz1, hz2⟩ := info_parts infoRowS
  have HI := Lib.hid (⟨hi, hz0, hz1, hz2⟩ : _ ∧ _ ∧ _ ∧ _)
  clear hi hz0 hz1 hz2
  obtain ⟨i1, hi, hz0, hz1, hz2⟩ := info_parts infoWri
  have HI1 := Lib.hid (⟨hi, hz0, hz1, hz2⟩ : _ ∧ _ ∧ _ ∧ _)
  clear hi hz0 hz1 hz2
  have hgl := hR.1.lt
  go_enter Try.func61, Try.ntmps61
  go_wp2_with fail
  refine (l2Some_any w0 A bs c g p w hR (by omega)).mono ?_
  rintro e w1 ⟨now, l, v, q, rfl, ho, hf, hl, hn0, hn1, hq, hR1, hG1⟩
  obtain ⟨A2, c2, rfl, _, _, hS2⟩ := ho.sl
  have hgB : g < w1.heap.size := hR1.1.lt
  have hwB : w.heap.size ≤ w1.heap.size := hG1.size
  have hw0g := hR1.2.2.1
  have HPA := Lib.hid (specPastAll_any A2 l c2 now w1 hf hl hn1 hS2)
  clear ho hf hS2 hR
  go_wp2_with fail
  refine HPA.out.mono ?_
  rintro e w2 ⟨qs, A3, c3, rfl, hQ, hql, hb2⟩
  have HL := Lib.hid (show LP w0 w A bs c g w1.heap.size (.slice A3 qs.length c3) qs q w2 from ⟨hQ, hR1.below hb2, gr_trans hG1 (gr_below hb2)⟩)
  generalize w1.heap.size = B at *
  have HQ0 := Lib.hid hq
  clear HPA hQ hb2 hR1 hG1
  by_cases h0 : qs.length = 0
  · have d0 : ((qs.length : Int) == 0) = true := by rw [beq_iff_eq]; omega
    have d1 : decide ((qs.length : Int) = 0) = true := decide_eq_true (by omega)
    have HRS := Lib.hid HL.out.1.rs
    clear h0
    go_wp2
    go_ret
    exact ⟨qs, A3, c3, q, rfl, HRS.out, by omega, by omega, HL.out.2.1, HL.out.2.2⟩
  have d0 : ((qs.length : Int) == 0) = false := beq_eq_false_iff_ne.2 (by omega)
  have d1 : decide ((qs.length : Int) = 0) = false := decide_eq_false (by omega)
  have hn1' : 1 ≤ qs.length := by omega
  clear h0
  go_wp2_with fail
  refine (pick_any w0 A bs c g q 6 w2 HL.out.2.1 (by omega) (by omega)).mono ?_
  rintro e w3 ⟨j, hj, rfl, hR3, hG3⟩
  have HL := Lib.hid (HL.out.draw hR3 hG3 hgB)
  clear hR3 hG3
  by_cases j0 : 0 < j
  · have j0' : decide ((0 : Int) < (j : Int)) = true := decide_eq_true (by omega)
    have j1' : (0 : Int) < (j : Int) := by omega
    have HRS := Lib.hid HL.out.1.rs
    go_wp2
    go_ret
    exact ⟨qs, A3, c3, q + 1, rfl, HRS.out, by omega, by omega, HL.out.2.1, HL.out.2.2⟩
  obtain rfl : j = 0 := by omega
  clear j0
  go_wp2_with fail
  refine (pick_any w0 A bs c g (q + 1) qs.length w3 HL.out.2.1 (by omega) (by omega)).mono ?_
  rintro e w4 ⟨k, hk, rfl, hR4, hG4⟩
  have HL := Lib.hid (HL.out.draw hR4 hG4 hgB)
  clear hR4 hG4
  go_wp2_with fail
  refine (pick_any w0 A bs c g (q + 1 + 1) 3 w4 HL.out.2.1 (by omega) (by omega)).mono ?_
  rintro e w5 ⟨u, hu, rfl, hR5, hG5⟩
  have HL := Lib.hid (HL.out.draw hR5 hG5 hgB)
  clear hR5 hG5
  obtain ⟨go, rfl⟩ : ∃ go, A3 = some ⟨go, 0, none⟩ := by
    rcases HL.out.1.1.2 with ⟨_, h2⟩ | ⟨g', cap, cur, e, _⟩
    · omega
    · injection e with e _ _; exact ⟨g', e⟩
  have HK := Lib.hid (List.getElem?_eq_getElem hk)
  have kcell : w5.cell? ⟨go, k, none⟩ = some (.slice qs[k].1 qs[k].2.2.length qs[k].2.1) := HL.out.1.cellAt HK.out
  have hkm := List.getElem_mem hk
  have HOW := Lib.hid (HL.out.1.2.1 qs[k] hkm)
  have HFK := Lib.hid (HL.out.1.2.2.2 qs[k] hkm)
  have hcc : qs.length ≤ c3 ∧ c3 ≤ maxLen := by
    obtain ⟨_, _, e, h1, h2, _⟩ := Sl.of_own encWrow_len HL.out.1.1
    injection e with _ _ e3
    omega
  obtain ⟨hcc1, hcc2⟩ := hcc
  have hglo : go < w5.heap.size := (HL.out.1.1.lt go rfl).2
  have hBgo : B ≤ go := (HL.out.1.1.lt go rfl).1
  generalize qs[k] = r at *
  obtain ⟨Ak, ck, lk⟩ := r
  simp only at kcell HOW HFK
  clear hkm
  have hki : (k : Int) < (qs.length : Int) := by omega
  have hu3 : u = 0 ∨ u = 1 ∨ u = 2 := by omega
  clear hu
  rcases hu3 with rfl | rfl | rfl
  · -- one write more in a row
    have hlk := HFK.out.2
    go_upto_region 9 with fail
    go_region_law (first
        | (refine step_append_slB (enc := encWri) rfl (.tmp 34) (.tmp 42) 41 rfl B 46 i1 (.agg #[.string ⟨#[]⟩, .int .i64 0, .bool false]) 3 32 Try.underlying41 HI1.out.1 HI1.out.2.1 HI1.out.2.2.1 HI1.out.2.2.2 rfl (by decide) (.slice Ak lk.length ck) lk.length (lk.flatMap encWri) (by simp [Act.eval, Act.put]) ((HL.out.1.2.1 (Ak, ck, lk) (List.mem_of_getElem? HK.out)).below ((Below.refl _ _).alloc (Nat.le_refl _) _)) encWri_len (some ⟨wk.heap.size, 0, none⟩) [((xs, xn, false) : Wri)] 1 1 rfl (by simp [Act.eval, Act.put]) (slw_one (x := (xs, xn, false)) (Blk.new wk 46 #[.string xs, .int .i64 xn, .bool false])) (encWri_one _) (by unfold maxLen; simp; omega) (by simp; omega) (by have := (HL.out.1.1.lt go rfl); simp; omega) ?_
           intro v' w8 hown hgr _
           obtain ⟨l2, hl2, ho⟩ : ∃ l2, l2 = lk ++ [((xs, xn, false) : Wri)] ∧ OwnW w8 B v' l2 := ⟨_, rfl, ownW_app hown⟩
           obtain ⟨A8, c8, rfl, _, _, hS8⟩ := ho.sl
           have HLa := Lib.hid (HL.out.below ((Below.refl _ _).alloc (Nat.le_refl _) (.cells #[.string xs, .int .i64 xn, .bool false] 46)))
           have HPUT := Lib.hid (HLa.out.1.put (r' := (A8, c8, l2)) HK.out hgr ho ⟨⟨by rw [hl2]; unfold maxLen; simp; omega, fun y hy => by
             rw [hl2] at hy
             rcases List.mem_append.1 hy with hy | hy
             · exact HFK.out.1.2 y hy
             · simp at hy; subst hy; have := keysP_le xs Hxs.out; unfold maxLen; simp only; omega⟩, by rw [hl2]; simp; omega⟩)
           have ho9 := own_farW HLa.out.1.1 hgr (own_apart HLa.out.1.1 (HLa.out.1.2.1 (Ak, ck, lk) (List.mem_of_getElem? HK.out)) (by decide))
           have kc : w8.cell? ⟨go, k, none⟩ = some (.slice Ak lk.length ck) := outer_cellAt ho9 HK.out
           have kf := World.ownsRow.frozenAt ho9 k
           have HR9 := Lib.hid ((HLa.out.2.1.own hgr (fun j hj => by have := ((HLa.out.1.2.1 (Ak, ck, lk) (List.mem_of_getElem? HK.out)).lt j hj).1; omega)).farS (p := ⟨go, k, none⟩) (by simp; omega) (by simp; omega) (.slice A8 l2.length c8))
           have HG9 := Lib.hid (gr_far (p := ⟨go, k, none⟩) (gr_own HLa.out.2.2 hgr (fun j hj => by have := ((HLa.out.1.2.1 (Ak, ck, lk) (List.mem_of_getElem? HK.out)).lt j hj).1; omega)) (by simp; omega) (.slice A8 l2.length c8))
           clear hown hgr ho hl2 hS8 ho9)
        | (go_simp
           go_at_call 106
           (first
             | refine (of_any w0 A bs c g _ (some ⟨_, 0, none⟩) keysP 3 _ HL.out.2.1 ?_ ⟨by decide, by decide⟩ ?_ ?_).mono ?_
             | refine (of_any w0 A bs c g _ (some ⟨_, 0, none⟩) keysP 3 _ (HL.out.2.1.below (bA _ _)) ?_ ⟨by decide, by decide⟩ ?_ ?_).mono ?_
             | refine (of_any w0 A bs c g _ (some ⟨_, 0, none⟩) keysP 3 _ (HL.out.2.1.below (bAD _ _)) ?_ ⟨by decide, by decide⟩ ?_ ?_).mono ?_
             | refine (of_any w0 A bs c g _ (some ⟨_, 0, none⟩) keysP 3 _ (HL.out.2.1.below (bAAD _ _ _)) ?_ ⟨by decide, by decide⟩ ?_ ?_).mono ?_)
           (have := HQ0.out; omega)
           (first | exact HKS.out | exact Sl.litSa _ _ keysP _ rfl _ (by simp) | exact (Sl.litSa _ _ keysP _ rfl _ (by simp)).below (bD _) | exact (Sl.litSa _ _ keysP _ rfl _ (by simp)).below (bAD _ _) | exact (Sl.litSa _ _ keysP _ rfl _ (by simp)).below (bA _ _))
           (intro b o h; have := HL.out.2.1.1.lt; simp at h; omega)
           rintro e wk ⟨xs, hxs, rfl, hRk, hGk⟩
           try (have hz := Sl.gr (k := 1) (l := numsP) (by first | exact Sl.litN _ _ numsP _ rfl | exact (Sl.litN _ _ numsP _ rfl).below (bD _) | exact (Sl.litN _ _ numsP _ rfl).below (bAD _ _)) hGk (by intro b o h; have := HL.out.2.1.1.lt; simp at h; simp; omega)
                (try simp only [World.size_alloc] at hz)
                have HKN := Lib.hid hz
                clear hz)
           (first
             | have HL := Lib.hid (HL.out.draw hRk hGk hgB)
             | have HL := Lib.hid ((HL.out.below (bA _ _)).draw hRk hGk hgB)
             | have HL := Lib.hid ((HL.out.below (bAD _ _)).draw hRk hGk hgB)
             | have HL := Lib.hid ((HL.out.below (bAAD _ _ _)).draw hRk hGk hgB))
           have kcell : wk.cell? ⟨go, k, none⟩ = some (.slice Ak lk.length ck) := HL.out.1.cellAt HK.out
           have hgk : go < wk.heap.size := (HL.out.1.1.lt go rfl).2
           have Hxs := Lib.hid hxs
           clear hRk hGk hxs)
        | (go_simp
           go_at_call 56
           (first
             | refine (num_any w0 A bs c g _ (some ⟨_, 0, none⟩) numsP 2 _ HL.out.2.1 ?_ ⟨by decide, by decide⟩ ?_ ?_).mono ?_
             | refine (num_any w0 A bs c g _ (some ⟨_, 0, none⟩) numsP 2 _ (HL.out.2.1.below (bA _ _)) ?_ ⟨by decide, by decide⟩ ?_ ?_).mono ?_
             | refine (num_any w0 A bs c g _ (some ⟨_, 0, none⟩) numsP 2 _ (HL.out.2.1.below (bAD _ _)) ?_ ⟨by decide, by decide⟩ ?_ ?_).mono ?_
             | refine (num_any w0 A bs c g _ (some ⟨_, 0, none⟩) numsP 2 _ (HL.out.2.1.below (bAAD _ _ _)) ?_ ⟨by decide, by decide⟩ ?_ ?_).mono ?_)
           (have := HQ0.out; omega)
           (first | exact HKN.out | exact Sl.litNa _ _ numsP _ rfl _ (by simp) | exact (Sl.litNa _ _ numsP _ rfl _ (by simp)).below (bD _) | exact (Sl.litNa _ _ numsP _ rfl _ (by simp)).below (bAD _ _) | exact (Sl.litNa _ _ numsP _ rfl _ (by simp)).below (bA _ _))
           (intro b o h; have := HL.out.2.1.1.lt; simp at h; omega)
           rintro e wk ⟨xn, hxn, rfl, hRk, hGk⟩
           try (have hz := Sl.gr (k := 1) (l := keysP) (by first | exact Sl.litS _ _ keysP _ rfl | exact (Sl.litS _ _ keysP _ rfl).below (bD _) | exact (Sl.litS _ _ keysP _ rfl).below (bAD _ _)) hGk (by intro b o h; have := HL.out.2.1.1.lt; simp at h; simp; omega)
                (try simp only [World.size_alloc] at hz)
                have HKS := Lib.hid hz
                clear hz)
           (first
             | have HL := Lib.hid (HL.out.draw hRk hGk hgB)
             | have HL := Lib.hid ((HL.out.below (bA _ _)).draw hRk hGk hgB)
             | have HL := Lib.hid ((HL.out.below (bAD _ _)).draw hRk hGk hgB)
             | have HL := Lib.hid ((HL.out.below (bAAD _ _ _)).draw hRk hGk hgB))
           have kcell : wk.cell? ⟨go, k, none⟩ = some (.slice Ak lk.length ck) := HL.out.1.cellAt HK.out
           have hgk : go < wk.heap.size := (HL.out.1.1.lt go rfl).2
           have Hxn := Lib.hid hxn
           clear hRk hGk hxn))
    all_goals
      have HLS := Lib.hid (show (qs.set k (A8, c8, l2)).length = qs.length from List.length_set)
      go_wp2
      go_ret
      first
        | exact ⟨qs.set k (A8, c8, l2), _, c3, _, by rw [HLS.out], HPUT.out, by rw [HLS.out]; omega, by have := HQ0.out; omega, HR9.out, HG9.out⟩
        | exact ⟨qs.set k (A8, c8, l2), _, c3, by rw [HLS.out]; rfl, HPUT.out, by rw [HLS.out]; omega, _, by have := HQ0.out; omega, HR9.out, HG9.out⟩
        | exact ⟨qs.set k (A8, c8, l2), some ⟨go, 0, none⟩, c3, by rw [HLS.out]; rfl, HPUT.out, by rw [HLS.out]; omega, _, by have := HQ0.out; omega, HR9.out, HG9.out⟩
        | (trace_state; fail)
  · -- a row once more
    have hbm := (Below.refl w5.heap.size w5).alloc (Nat.le_refl _) (.cells #[.slice Ak lk.length ck] 41)
    have HL5 := Lib.hid (HL.out.below hbm)
    have HXS := Lib.hid (slq_one (r := (Ak, ck, lk)) (Blk.new w5 41 #[.slice Ak lk.length ck]))
    have H63 := Lib.hid (show qs.length + [((Ak, ck, lk) : Wrow)].length ≤ maxLen by unfold maxLen; simp; omega)
    have HBY := Lib.hid (show (qs.length + [((Ak, ck, lk) : Wrow)].length) * 24 ≤ 140737488355328 by simp; omega)
    have HBS := Lib.hid (show B ≤ (w5.alloc (.cells #[.slice Ak lk.length ck] 41)).heap.size by simp; omega)
    clear hbm
    go_wp2_with (at_builtin; refine wpList_append_slM (enc := encWrow) rfl (.tmp 47) (.tmp 52) 62 rfl B 41 i0 _ 1 24 Try.underlying62 HI.out.1 HI.out.2.1 HI.out.2.2.1 HI.out.2.2.2 rfl (by decide) (.slice (some ⟨go, 0, none⟩) qs.length c3) qs.length (qs.flatMap encWrow) rfl HL5.out.1.1 encWrow_len (some ⟨w5.heap.size, 0, none⟩) [((Ak, ck, lk) : Wrow)] 1 1 rfl (by first | rfl | simp [Act.eval]) HXS.out (encWrow_one _) H63.out HBY.out HBS.out ?_; intro v' w6 hown hgr _; obtain ⟨q2, hq2, ho⟩ : ∃ q2, q2 = qs ++ [((Ak, ck, lk) : Wrow)] ∧ w6.ownsRow B 41 1 v' q2.length (q2.flatMap encWrow) := ⟨_, rfl, ownQ_app hown⟩; have HQ2 := Lib.hid hq2; have HGR := Lib.hid hgr; obtain ⟨A6, c6, rfl, _, _, hS6⟩ := Sl.of_own encWrow_len ho; have HO6 := Lib.hid ho; clear hown hgr ho hq2 hS6)
    have HRS := Lib.hid (RS.of HO6.out (fun s hs => by
      have hs2 : s ∈ qs := by
        rw [HQ2.out] at hs
        rcases List.mem_append.1 hs with h | h
        · exact h
        · simp at h; subst h; exact List.mem_of_getElem? HK.out
      exact ⟨own_farW (HL5.out.1.2.1 s hs2) HGR.out (own_apart (HL5.out.1.2.1 s hs2) HL5.out.1.1 (by decide)), (HL5.out.1.2.2.2 s hs2).1, Nat.le_trans (HL5.out.1.2.2.2 s hs2).2 (by omega)⟩))
    have HLQ := Lib.hid (show q2.length = qs.length + 1 by rw [HQ2.out]; simp)
    have HR6 := Lib.hid (HL5.out.2.1.own HGR.out (fun j hj => by have := (HL5.out.1.1.lt j hj).1; omega))
    have HG6 := Lib.hid (gr_own HL5.out.2.2 HGR.out (fun j hj => by have := (HL5.out.1.1.lt j hj).1; omega))
    go_ret
    exact ⟨q2, _, c6, _, rfl, HRS.out, by rw [HLQ.out]; omega, by have := HQ0.out; omega, HR6.out, HG6.out⟩
  · -- the rows from one on
    have HRS := Lib.hid (HL.out.1.rs.drop (k := k) (by omega))
    have HDL := Lib.hid (show (qs.drop k).length = qs.length - k from List.length_drop)
    have b1 : ¬ c3 = k := by omega
    have b2 : ¬ k = c3 := by omega
    have b3 : k ≤ c3 := by omega
    have b4 : (k : Int) ≤ (qs.length : Int) := by omega
    have b5 : (qs.length : Int) ≤ (c3 : Int) := by omega
    go_wp2
    go_ret
    exact ⟨qs.drop k, _, c3 - k, _, by rw [HDL.out]; rfl, HRS.out, by rw [HDL.out]; omega, by have := HQ0.out; omega, HL.out.2.1, HL.out.2.2⟩
set_option maxRecDepth 100000 in
theorem drawFold_any (A : Option Addr) (bs : List UInt8) (c : Nat) (w : World) (hn : bs.length ≤ 1048576) (hc : bs.length ≤ c) (hm : c ≤ maxLen) (hS : Sl encU 1 w A bs) :
    Calls Try.prog 29 #[.slice A bs.length c] w fun e w' => ∃ (qs : List Wrow) (A' : Option Addr) (c' : Nat), e = .returned (.slice A' qs.length c') ∧ RS w' A' qs c' ∧ qs.length ≤ 41 ∧ Below w.heap.size w w' := by
  go_enter Try.func29, Try.ntmps29
  go_wp2_with fail
  refine (open_any A bs c w hn hc hm hS).mono ?_
  rintro e w1 ⟨bs', c', g, rfl, hR1, hb1⟩
  go_wp2_with fail
  refine (l8Past_any w A bs' c' g 0 w1 hR1 (by omega)).mono ?_
  rintro e w2 ⟨qs, A3, c3, q, rfl, hq, hl, _, hR2, hG2⟩
  have HQ := Lib.hid hq
  have hbe := hR2.2.1
  clear hq hR1 hR2
  go_wp2
  go_ret
  exact ⟨qs, A3, c3, rfl, HQ.out, hl, hbe⟩
end Go.Proofs.Ytpjkcmmmpgncmaa
