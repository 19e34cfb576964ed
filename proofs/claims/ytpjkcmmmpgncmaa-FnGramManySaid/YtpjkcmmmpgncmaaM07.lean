import Derived.BigQuiet
import Derived.Test.YtpjkcmmmpgncmaaAskO
import Derived.Deep.RegionWith
import Derived.Test.YtpjkcmmmpgncmaaRowT
import Derived.Test.YtpjkcmmmpgncmaaM06
import Derived.Test.YtpjkcmmmpgncmaaL2Ws
/- The reference's AskText: a short string. -/
namespace Go.Proofs.Ytpjkcmmmpgncmaa
open Go.RowKit
/-- a string of some size -/
def TextPost (c : Nat) (w : World) (e : Ending) (w' : World) : Prop := ∃ s : ByteArray, e = .returned (.string s) ∧ s.size ≤ c ∧ Below w.heap.size w w'
/-- AskText: nothing, or of something that may be asked -/
def AskTextPost (x : AskV) (w : World) (e : Ending) (w' : World) : Prop := ∃ s : ByteArray, e = .returned (.string s) ∧ s.size ≤ 1000020 ∧ (s = ⟨#[]⟩ ∨ AskP x) ∧ Below w.heap.size w w'
theorem AskTextPost.no {x : AskV} {w w' : World} (h : Below w.heap.size w w') : AskTextPost x w (.returned (.string ⟨#[]⟩)) w' := ⟨_, rfl, by decide, .inl rfl, h⟩
theorem AskTextPost.yes {x : AskV} {s : ByteArray} {w w' : World} (h : Below w.heap.size w w') (hp : AskP x) (hs : s.size ≤ 1000020) : AskTextPost x w (.returned (.string s)) w' := ⟨_, rfl, hs, .inr hp, h⟩
theorem TextPost.mk {c : Nat} {s : ByteArray} {w w' : World} (h : Below w.heap.size w w') (hs : s.size ≤ c) : TextPost c w (.returned (.string s)) w' := ⟨_, rfl, hs, h⟩
set_option maxRecDepth 100000 in
set_option maxHeartbeats 4000000 in
theorem specAskText_any (x : AskV) (w : World) (ha : x.2.1.size ≤ maxLen) (hb : x.2.2.1.size ≤ maxLen) :
    Calls Try.prog 159 #[.agg #[.int .i64 x.1, .string x.2.1, .string x.2.2.1, .int .i64 x.2.2.2]] w (AskTextPost x w) := by
  obtain ⟨k, a, b, n⟩ := x
  simp only at ha hb ⊢
  have hb0 := (Below.refl w.heap.size w).alloc (Nat.le_refl _) (.cells #[.int .i64 k, .string a, .string b, .int .i64 n] 128)
  have HO := Lib.hid (specAskOk_any (k, a, b, n) (w.alloc (.cells #[.int .i64 k, .string a, .string b, .int .i64 n] 128)) ha hb)
  have hB := Blk.new w 128 #[.int .i64 k, .string a, .string b, .int .i64 n]
  clear ha hb
  go_enter Try.func159, Try.ntmps159
  go_wp2_with fail
  generalize w.alloc (.cells #[.int .i64 k, .string a, .string b, .int .i64 n] 128) = w0 at *
  refine HO.out.mono ?_
  rintro e w1 ⟨v, rfl, hp, hb1⟩
  have hB1 := hB.kept hb1
  have x0 : w1.cell? ⟨w.heap.size, 0, none⟩ = some (.int .i64 k) := hB1.cell 0
  have x1 : w1.cell? ⟨w.heap.size, 1, none⟩ = some (.string a) := hB1.cell 1
  have x2 : w1.cell? ⟨w.heap.size, 2, none⟩ = some (.string b) := hB1.cell 2
  have x3 : w1.cell? ⟨w.heap.size, 3, none⟩ = some (.int .i64 n) := hB1.cell 3
  have HB1 := Lib.hid (bthen hb0 hb1)
  clear HO hB hb0 hb1
  cases v
  · go_wp2
    go_ret
    exact AskTextPost.no HB1.out
  have HP := Lib.hid (hp rfl)
  obtain ⟨p1, p2, p3, p4, p5, p6⟩ := hp rfl
  simp only at p1 p2 p3 p4 p5 p6
  obtain ⟨m, rfl⟩ : ∃ m : Nat, k = (m : Int) := ⟨k.toNat, by omega⟩
  have hm : m ≤ 9 := by omega
  clear hp p1 p2
  go_wp2_with fail
  refine (l4Shape_any _ _).mono ?_
  rintro e w2 ⟨rfl, hb2⟩
  have hB2 := hB1.kept hb2
  have y0 : w2.cell? ⟨w.heap.size, 0, none⟩ = some (.int .i64 m) := hB2.cell 0
  have HB2 := Lib.hid (bthen HB1.out hb2)
  generalize shapeK (m : Int) = s at *
  obtain ⟨s1, s2, s3⟩ := s
  clear hB1 x0 x1 x2 x3 hb2
  go_wp2_with fail
  refine (l4Word_any m _ hm).mono ?_
  rintro e w3 ⟨t, rfl, ht, hb3⟩
  have hB3 := hB2.kept hb3
  have z1 : w3.cell? ⟨w.heap.size, 1, none⟩ = some (.string a) := hB3.cell 1
  have z2 : w3.cell? ⟨w.heap.size, 2, none⟩ = some (.string b) := hB3.cell 2
  have z3 : w3.cell? ⟨w.heap.size, 3, none⟩ = some (.int .i64 n) := hB3.cell 3
  have HB3 := Lib.hid (bthen HB2.out hb3)
  have HN := Lib.hid (decZ_any n w3 (by omega) (by omega))
  have hP : (⟨#[32]⟩ : ByteArray).size = 1 := rfl
  clear hB2 y0 hb3 hB3 p5 p6 HB1 HB2
  cases s1 <;> cases s2
  all_goals
    cases s3
    case false =>
      go_wp2
      all_goals try (exfalso; omega)
      go_ret
      exact AskTextPost.yes HB3.out HP.out (by (try simp only [ByteArray.size_append, hP]); omega)
    case true =>
      go_wp2_with fail
      all_goals try (exfalso; omega)
      refine HN.out.mono ?_
      rintro e w4 ⟨q, rfl, hq, hb4⟩
      go_wp2
      all_goals try (exfalso; omega)
      go_ret
      exact AskTextPost.yes (bthen HB3.out hb4) HP.out (by (try simp only [ByteArray.size_append, hP]); omega)
end Go.Proofs.Ytpjkcmmmpgncmaa
/- The reference on rows: copies, what is under a key, the sum. -/
namespace Go.Proofs.Ytpjkcmmmpgncmaa
open Go.RowKit
theorem ownR_mk {w : World} {B : Nat} {v : Value} {l : List Row} (h : w.ownsRow B 111 2 v (0 + l.length) ([] ++ l.flatMap encRow)) : OwnR w B v l := by
  unfold OwnR; rwa [Nat.zero_add, List.nil_append] at h
set_option maxRecDepth 100000 in
set_option maxHeartbeats 2000000 in
theorem l1Copy_any (A : Option Addr) (l : List Row) (c : Nat) (w : World) (hn : l.length ≤ 1048576) (hR : Sl encRow 2 w A l) :
    Calls Try.prog 241 #[.slice A l.length c] w fun e w' => ∃ A' c', e = .returned (.slice A' l.length c') ∧ OwnR w' w.heap.size (.slice A' l.length c') l ∧ Below w.heap.size w w' := by
  obtain ⟨i0, hi, hz0, hz1, hz2⟩ := info_parts infoRow
  have HI := Lib.hid (⟨hi, hz0, hz1, hz2⟩ : _ ∧ _ ∧ _ ∧ _)
  clear hi hz0 hz1 hz2
  have ho := (own_of_blk (base := w.heap.size) (n := 0) (k := 2) (xs := []) (Blk.new w 111 #[]) (Nat.le_refl _) (Nat.zero_le _) rfl rfl)
  have hb0 := (Below.refl w.heap.size w).alloc (Nat.le_refl _) (.cells #[] 111)
  have HO := Lib.hid ho
  have HS := Lib.hid (hR.below hb0)
  have HB := Lib.hid hb0
  have HBS := Lib.hid (show w.heap.size ≤ (w.alloc (.cells #[] 111)).heap.size by simp)
  have H63 := Lib.hid (show 0 + l.length ≤ maxLen by unfold maxLen; omega)
  have HBY := Lib.hid (show (0 + l.length) * 24 ≤ 140737488355328 by omega)
  clear ho hb0 hR
  go_enter Try.func241, Try.ntmps241
  go_wp2_with (at_builtin; refine wpList_append_sl (enc := encRow) rfl (.tmp 3) (.tmp 4) 68 rfl w.heap.size 111 i0 _ 2 24 Try.underlying68 HI.out.1 HI.out.2.1 HI.out.2.2.1 HI.out.2.2.2 rfl (by decide) (.slice (some ⟨w.heap.size, 0, none⟩) 0 0) 0 [] rfl HO.out encRow_len A l c rfl HS.out (encRow_one l) H63.out HBY.out HBS.out ?_; intro v' w' hown hgrow; have ho : OwnR w' w.heap.size v' l := ownR_mk hown)
  go_ret
  obtain ⟨A', c', rfl, _, _, _⟩ := ho.sl
  exact ⟨A', c', rfl, ho, below_own HB.out hgrow HBS.out (fun k hk => by simp [Value.ownBlock] at hk; omega)⟩
theorem findN_lt {K : ByteArray} {l : List Row} (h : hasN K l = true) : ∃ x, l[findN K l]? = some x ∧ x.1 = K := by
  unfold hasN at h
  cases hx : l[findN K l]? with
  | none => rw [hx] at h; simp at h
  | some x => rw [hx] at h; exact ⟨x, rfl, by simpa using h⟩
theorem kirr {K : ByteArray} : ltB K K = false := by
  cases h : ltB K K
  · rfl
  · exact absurd (show kLt K K from h) (kLt_irrefl K)
/-- in rows in order a key is found where it is -/
theorem hasN_iff {K : ByteArray} : ∀ {l : List Row}, AscR l → (hasN K l = true ↔ ∃ x ∈ l, x.1 = K)
  | [], _ => by simp [hasN]
  | x :: l, h => by
    obtain ⟨h1, h2⟩ := List.pairwise_cons.1 h
    by_cases hlt : ltB x.1 K = true
    · have e : findN K (x :: l) = findN K l + 1 := by rw [findN, if_pos hlt]
      have e2 : hasN K (x :: l) = hasN K l := by unfold hasN; rw [e]; simp
      rw [e2, hasN_iff h2]
      constructor
      · rintro ⟨y, hy, he⟩; exact ⟨y, List.mem_cons_of_mem _ hy, he⟩
      · rintro ⟨y, hy, he⟩
        rcases List.mem_cons.1 hy with rfl | hy
        · rw [he, kirr] at hlt; cases hlt
        · exact ⟨y, hy, he⟩
    · have e : findN K (x :: l) = 0 := by rw [findN, if_neg hlt]
      have e2 : hasN K (x :: l) = decide (x.1 = K) := by unfold hasN; rw [e]; simp
      rw [e2]
      simp only [decide_eq_true_eq]
      constructor
      · intro he; exact ⟨x, List.mem_cons_self, he⟩
      · rintro ⟨y, hy, he⟩
        rcases List.mem_cons.1 hy with rfl | hy
        · exact he
        · have := h1 y hy
          rw [he] at this
          exact absurd this hlt
theorem getR_find {K : ByteArray} {l : List Row} (h : rowsB l = true) {x : Row} (hh : hasN K l = true) (hx : l[findN K l]? = some x) : getR l K = (x.2, true) := by
  obtain ⟨y, hy, he⟩ := findN_lt hh
  rw [hx] at hy
  injection hy with hy
  subst hy
  exact getR_yes h hx he
theorem getR_none {K : ByteArray} {l : List Row} (h : rowsB l = true) (hh : hasN K l = false) : getR l K = (0, false) := by
  have hn : ¬ ∃ x ∈ l, x.1 = K := fun hx => by rw [(hasN_iff (rowsB_iffT.1 h).2.2).2 hx] at hh; cases hh
  unfold getR
  rw [if_pos h]
  cases hf : l.find? (fun x => decide (x.1 = K)) with
  | none => rfl
  | some x =>
    have h1 := List.find?_some hf
    exact absurd ⟨x, List.mem_of_find?_eq_some hf, by simpa using h1⟩ hn
set_option maxRecDepth 100000 in
set_option maxHeartbeats 2000000 in
theorem specRowsGet_any (A : Option Addr) (l : List Row) (c : Nat) (K : ByteArray) (w : World) (hf : ∀ x ∈ l, x.1.size ≤ maxLen) (hn : l.length ≤ 1048576) (hR : Sl encRow 2 w A l) :
    Calls Try.prog 233 #[.slice A l.length c, .string K] w fun e w' => e = .returned (.tuple #[.int .i64 (getR l K).1, .bool (getR l K).2]) ∧ Below w.heap.size w w' := by
  have HC := Lib.hid (l1Find_any A l c K w hn hR)
  have HR := Lib.hid hR
  have HF := Lib.hid hf
  have HLE := Lib.hid (findN_le K l)
  clear hR hf
  obtain ⟨f, hf⟩ : ∃ f, f = findN K l := ⟨_, rfl⟩
  obtain ⟨hh, hhh⟩ : ∃ b, b = hasN K l := ⟨_, rfl⟩
  rw [← hf, ← hhh] at HC
  have HFN := Lib.hid hf
  have HHN := Lib.hid hhh
  clear hf hhh
  go_enter Try.func233, Try.ntmps233
  go_wp2_with fail
  refine HC.out.mono ?_
  rintro e w1 ⟨rfl, hb1⟩
  have HC2 := Lib.hid (specRowsOk_any A l c w1 HF.out hn (HR.out.below hb1))
  have HB1 := Lib.hid hb1
  clear HC hb1
  go_wp2_with fail
  refine HC2.out.mono ?_
  rintro e w2 ⟨rfl, hb2⟩
  have HS := Lib.hid (HR.out.below (bthen HB1.out hb2))
  have HBE := Lib.hid (bthen HB1.out hb2)
  clear HC2 hb2
  cases hok : rowsB l
  · have HG := Lib.hid (getR_bad (key := K) hok)
    clear hok
    go_wp2
    go_ret2
    exact ⟨by rw [HG.out]; rfl, HBE.out⟩
  · cases hh
    · have HG := Lib.hid (getR_none hok HHN.out.symm)
      clear hok
      go_wp2
      go_ret2
      exact ⟨by rw [HG.out]; rfl, HBE.out⟩
    · obtain ⟨x, hx, he⟩ := findN_lt HHN.out.symm
      have HG := Lib.hid (getR_find hok HHN.out.symm hx)
      rw [← HFN.out] at hx
      obtain ⟨hlt, hxe⟩ := List.getElem?_eq_some_iff.1 hx
      obtain ⟨b, o, rfl, hbl, c0, c1⟩ := Sl.at2 HS.out hlt
      rw [hxe] at c0 c1
      have hki : (f : Int) < (l.length : Int) := by omega
      have hki0 : (0 : Int) ≤ (f : Int) := by omega
      clear hok hx hxe he
      go_wp2
      go_ret2
      exact ⟨by rw [HG.out]; rfl, HBE.out⟩
end Go.Proofs.Ytpjkcmmmpgncmaa
/- Slices whose elements' type is known, and boxes: a store to a box leaves such slices alone. -/
namespace Go.Proofs.Ytpjkcmmmpgncmaa
open Go.RowKit
/-- no slice's elements are of these types: they are boxes -/
def boxT : List TypeId := [32, 76, 78, 81, 128, 155]
def Kp (W W' : World) : Prop := W.heap.size ≤ W'.heap.size ∧ ∀ b cs t, Blk W b t cs → t ∉ boxT → Blk W' b t cs
theorem Kp.refl (W : World) : Kp W W := ⟨Nat.le_refl _, fun _ _ _ h _ => h⟩
theorem Kp.trans {W W1 W2 : World} (h : Kp W W1) (h2 : Kp W1 W2) : Kp W W2 := ⟨Nat.le_trans h.1 h2.1, fun b cs t hb ht => h2.2 b cs t (h.2 b cs t hb ht) ht⟩
theorem Kp.below {W W1 : World} (h : Below W.heap.size W W1) : Kp W W1 := ⟨h.size, fun _ _ _ hb _ => hb.kept h⟩
theorem Kp.then {W W1 W2 : World} (h : Kp W W1) (h2 : Below W1.heap.size W1 W2) : Kp W W2 := h.trans (Kp.below h2)
theorem Kp.set {W W' : World} {g i : Nat} {t : TypeId} {cs : Array Value} (h : Kp W W') (hB : Blk W' g t cs) (ht : t ∈ boxT) (u : Value) : Kp W (W'.setCell ⟨g, i, none⟩ u) := by
  refine ⟨by rw [World.size_setCell]; exact h.1, fun b cs2 t2 hb ht2 => (h.2 b cs2 t2 hb ht2).far (p := ⟨g, i, none⟩) ?_ u⟩
  intro e
  have h1 := h.2 b cs2 t2 hb ht2
  simp only at e
  subst e
  unfold Blk at h1 hB
  rw [h1] at hB
  injection hB with hB
  injection hB with e1 e2
  exact ht2 (e2 ▸ ht)
theorem Kp.gr {W W' : World} {g : Nat} {t : TypeId} {cs : Array Value} (hB : Blk W g t cs) (ht : t ∈ boxT) (hg : W.grownBy W' (some g)) : Kp W W' := by
  refine ⟨hg.size, fun b cs2 t2 hb ht2 => hb.grown hg ?_⟩
  intro e
  injection e with e
  subst e
  unfold Blk at hb hB
  rw [hb] at hB
  injection hB with hB
  injection hB with e1 e2
  exact ht2 (e2 ▸ ht)
theorem blk_ne {W : World} {g b : Nat} {t t2 : TypeId} {cs cs2 : Array Value} (h : Blk W g t cs) (h2 : Blk W b t2 cs2) (ht : t ≠ t2) : g ≠ b := by
  intro e; subst e
  unfold Blk at h h2
  rw [h] at h2
  injection h2 with h2
  injection h2 with e1 e2
  exact ht e2
/-- a slice that reads as a list, its elements' type known -/
def SlK {α : Type} (enc : α → List Value) (k : Nat) (t : TypeId) (w : World) (A : Option Addr) (l : List α) : Prop :=
  0 < l.length → ∃ b o cs, A = some ⟨b, o, none⟩ ∧ Blk w b t cs ∧ ∀ i j x, l[i]? = some x → j < k → cs[o + i * k + j]? = (enc x)[j]?
section
variable {α : Type} {enc : α → List Value} {k : Nat} {t : TypeId} {w w' : World} {A : Option Addr} {l : List α}
theorem SlK.sl (h : SlK enc k t w A l) : Sl enc k w A l := fun hl => by
  obtain ⟨b, o, cs, e, hb, hc⟩ := h hl
  exact ⟨b, o, e, hb.lt, fun i j x hx hj => (hb.cell _).trans (hc i j x hx hj)⟩
theorem SlK.kp (h : SlK enc k t w A l) (hk : Kp w w') (ht : t ∉ boxT) : SlK enc k t w' A l := fun hl => by
  obtain ⟨b, o, cs, e, hb, hc⟩ := h hl
  exact ⟨b, o, cs, e, hk.2 _ _ _ hb ht, hc⟩
theorem SlK.nil (w : World) (A : Option Addr) : SlK enc k t w A [] := fun h => absurd h (by simp)
theorem SlK.of_own {B n c : Nat} (henc : ∀ x, (enc x).length = k) (h : w.ownsRow B t k (.slice A n c) l.length (l.flatMap enc)) : SlK enc k t w A l := fun hl => by
  rcases h.2 with ⟨e, h0⟩ | ⟨g, cap, cur, e, hb, hh, hn, hm, hs, ht⟩
  · omega
  · injection e with e1 e2 e3
    refine ⟨g, 0, cur, e1, hh, fun i j x hx hj => ?_⟩
    have hi : i < l.length := (List.getElem?_eq_some_iff.1 hx).1
    have hij : i * k + j < l.length * k := by
      have : (i + 1) * k ≤ l.length * k := Nat.mul_le_mul_right _ hi
      rw [Nat.add_mul] at this; omega
    rw [Nat.zero_add]
    have h1 : cur[i * k + j]? = (cur.toList.take (l.length * k))[i * k + j]? := by rw [List.getElem?_take, if_pos hij]; simp
    rw [h1, ht]
    exact flat_get henc l i j x hx hj
end
/-- the versions of a store -/
def VK (W : World) (now : Int) (A : Option Addr) (l : List Ver) : Prop := SlK encVer 4 88 W A l ∧ FitsV l ∧ l.length ≤ 60 ∧ 0 ≤ now ∧ now ≤ 40
/-- what one did -/
def WK (W : World) (A : Option Addr) (ws : List Wri) : Prop := SlK encWri 3 46 W A ws ∧ FitsW ws ∧ ws.length ≤ 8
/-- rows -/
def RK (W : World) (A : Option Addr) (rs : List Row) (c : Nat) : Prop := SlK encRow 2 111 W A rs ∧ (∀ x ∈ rs, x.1.size ≤ maxLen) ∧ rs.length ≤ c ∧ c ≤ maxLen
/-- what one may ask by names -/
def NK (W : World) (A : Option Addr) (ns : List Nm) : Prop := SlK encNm 5 130 W A ns ∧ (∀ x ∈ ns, x.1.size ≤ 10 ∧ x.2.2.1.size ≤ maxLen ∧ x.2.2.2.1.size ≤ maxLen) ∧ ns.length ≤ 4
theorem VK.kp {W W' : World} {now : Int} {A : Option Addr} {l : List Ver} (h : VK W now A l) (hk : Kp W W') : VK W' now A l := ⟨h.1.kp hk (by decide), h.2⟩
theorem WK.kp {W W' : World} {A : Option Addr} {l : List Wri} (h : WK W A l) (hk : Kp W W') : WK W' A l := ⟨h.1.kp hk (by decide), h.2⟩
theorem RK.kp {W W' : World} {A : Option Addr} {l : List Row} {c : Nat} (h : RK W A l c) (hk : Kp W W') : RK W' A l c := ⟨h.1.kp hk (by decide), h.2⟩
theorem NK.kp {W W' : World} {A : Option Addr} {l : List Nm} (h : NK W A l) (hk : Kp W W') : NK W' A l := ⟨h.1.kp hk (by decide), h.2⟩
theorem VK.sl {W : World} {now : Int} {A : Option Addr} {l : List Ver} (h : VK W now A l) : Sl encVer 4 W A l := h.1.sl
theorem WK.sl {W : World} {A : Option Addr} {l : List Wri} (h : WK W A l) : Sl encWri 3 W A l := h.1.sl
theorem RK.sl {W : World} {A : Option Addr} {l : List Row} {c : Nat} (h : RK W A l c) : Sl encRow 2 W A l := h.1.sl
theorem NK.sl {W : World} {A : Option Addr} {l : List Nm} (h : NK W A l) : Sl encNm 5 W A l := h.1.sl
theorem VK.of {W : World} {B c : Nat} {now : Int} {A : Option Addr} {l : List Ver} (h : OwnV W B (.slice A l.length c) l) (hf : FitsV l) (hl : l.length ≤ 60) (h0 : 0 ≤ now) (h1 : now ≤ 40) : VK W now A l := ⟨SlK.of_own encVer_len h, hf, hl, h0, h1⟩
theorem WK.of {W : World} {B c : Nat} {A : Option Addr} {l : List Wri} (h : OwnW W B (.slice A l.length c) l) (hf : FitsW l) (hl : l.length ≤ 8) : WK W A l := ⟨SlK.of_own encWri_len h, hf, hl⟩
theorem RK.of {W : World} {B c : Nat} {A : Option Addr} {l : List Row} (h : OwnR W B (.slice A l.length c) l) (hf : ∀ x ∈ l, x.1.size ≤ maxLen) : RK W A l c := by
  obtain ⟨A', c', e, h1, h2, _⟩ := h.sl
  injection e with e1 e2 e3
  subst e3
  exact ⟨SlK.of_own encRow_len h, hf, h1, h2⟩
/-- boxes that stand, apart from one another, in new memory -/
def Sts (w : World) (L : List (Nat × TypeId × Array Value)) (W : World) : Prop :=
  (∀ b ∈ L, w.heap.size ≤ b.1 ∧ Blk W b.1 b.2.1 b.2.2) ∧ (L.map (·.1)).Nodup ∧ Below w.heap.size w W
section
variable {w W W' : World} {L L' : List (Nat × TypeId × Array Value)}
theorem Sts.start (w : World) : Sts w [] w := ⟨fun b h => absurd h (by simp), by simp, Below.refl _ _⟩
theorem Sts.kept (h : Sts w L W) (hb : Below W.heap.size W W') : Sts w L W' := ⟨fun b hm => ⟨(h.1 b hm).1, (h.1 b hm).2.kept hb⟩, h.2.1, bthen h.2.2 hb⟩
theorem Sts.blk (h : Sts w L W) (i : Nat) {a : Nat} {t : TypeId} {cs : Array Value} (hi : L[i]? = some (a, t, cs)) : Blk W a t cs := (h.1 _ (List.mem_of_getElem? hi)).2
theorem Sts.alloc (h : Sts w L W) (t : TypeId) (cs : Array Value) : Sts w (L ++ [(W.heap.size, t, cs)]) (W.alloc (.cells cs t)) := by
  have hb := (Below.refl W.heap.size W).alloc (Nat.le_refl _) (.cells cs t)
  refine ⟨fun b hm => ?_, ?_, bthen h.2.2 hb⟩
  · rcases List.mem_append.1 hm with hm | hm
    · exact ⟨(h.1 b hm).1, (h.1 b hm).2.kept hb⟩
    · simp at hm; subst hm; exact ⟨h.2.2.size, Blk.new W t cs⟩
  · rw [List.map_append, List.nodup_append]
    refine ⟨h.2.1, by simp, fun x hx y hy => ?_⟩
    simp at hy; subst hy
    obtain ⟨b, hm, rfl⟩ := List.mem_map.1 hx
    have := (h.1 b hm).2.lt
    omega
theorem Sts.setAux {w W : World} {a i : Nat} {t : TypeId} {cs : Array Value} {L1 L2 : List (Nat × TypeId × Array Value)} (h : Sts w (L1 ++ (a, t, cs) :: L2) W) (u : Value) : Sts w (L1 ++ (a, t, cs.setIfInBounds i u) :: L2) (W.setCell ⟨a, i, none⟩ u) := by
  obtain ⟨h1, h2, h3⟩ := h
  have hm0 : (a, t, cs) ∈ L1 ++ (a, t, cs) :: L2 := by simp
  have hn := h2
  simp only [List.map_append, List.map_cons] at hn
  rw [List.nodup_append, List.nodup_cons] at hn
  obtain ⟨_, ⟨hn1, _⟩, hn2⟩ := hn
  refine ⟨fun b hm => ?_, by simpa using h2, h3.setCell (h1 _ hm0).1 _⟩
  rcases List.mem_append.1 hm with hm | hm
  · have := h1 b (List.mem_append.2 (.inl hm))
    exact ⟨this.1, this.2.far (p := ⟨a, i, none⟩) (fun e => hn2 b.1 (List.mem_map.2 ⟨b, hm, rfl⟩) a (by simp) e) u⟩
  · rcases List.mem_cons.1 hm with rfl | hm
    · exact ⟨(h1 _ hm0).1, (h1 _ hm0).2.set_ i u⟩
    · have := h1 b (List.mem_append.2 (.inr (List.mem_cons_of_mem _ hm)))
      exact ⟨this.1, this.2.far (p := ⟨a, i, none⟩) (fun e => hn1 (List.mem_map.2 ⟨b, hm, e⟩)) u⟩
/-- the j-th box: its i-th cell is stored -/
theorem Sts.set (h : Sts w L W) (j i : Nat) (u : Value) {a : Nat} {t : TypeId} {cs : Array Value} (hj : L[j]? = some (a, t, cs)) : Sts w (L.set j (a, t, cs.setIfInBounds i u)) (W.setCell ⟨a, i, none⟩ u) := by
  obtain ⟨hlt, he⟩ := List.getElem?_eq_some_iff.1 hj
  have e1 : L = L.take j ++ (a, t, cs) :: L.drop (j + 1) := by
    rw [← he, ← List.drop_eq_getElem_cons hlt, List.take_append_drop]
  have e2 : L.set j (a, t, cs.setIfInBounds i u) = L.take j ++ (a, t, cs.setIfInBounds i u) :: L.drop (j + 1) := List.set_eq_take_append_cons_drop.trans (if_pos hlt)
  rw [e2]
  rw [e1] at h
  exact h.setAux u
end
end Go.Proofs.Ytpjkcmmmpgncmaa
/- A bundle of what stands in a call: boxes, and facts that a store to a box leaves alone. -/
namespace Go.Proofs.Ytpjkcmmmpgncmaa
open Go.RowKit
def KpC (P : World → Prop) : Prop := ∀ W W' : World, Kp W W' → P W → P W'
theorem VK.c {now : Int} {A : Option Addr} {l : List Ver} : KpC (fun W => VK W now A l) := fun _ _ hk h => h.kp hk
theorem WK.c {A : Option Addr} {l : List Wri} : KpC (fun W => WK W A l) := fun _ _ hk h => h.kp hk
theorem NK.c {A : Option Addr} {l : List Nm} : KpC (fun W => NK W A l) := fun _ _ hk h => h.kp hk
theorem RK.c {A : Option Addr} {l : List Row} {c : Nat} : KpC (fun W => RK W A l c) := fun _ _ hk h => h.kp hk
/-- a row of one's own, its elements no boxes -/
theorem own_kp {w w' : World} {B k n : Nat} {e : TypeId} {v : Value} {xs : List Value} (h : w.ownsRow B e k v n xs) (hk : Kp w w') (ht : e ∉ boxT) : w'.ownsRow B e k v n xs := by
  refine ⟨h.1, ?_⟩
  rcases h.2 with h2 | ⟨g, cap, cur, hv, hg, hh, r⟩
  · exact .inl h2
  · exact .inr ⟨g, cap, cur, hv, hg, hk.2 _ _ _ hh ht, r⟩
theorem OwnR.c {B : Nat} {v : Value} {l : List Row} : KpC (fun W => OwnR W B v l) := fun _ _ hk h => own_kp h hk (by decide)
def SP (w : World) (L : List (Nat × TypeId × Array Value)) (Ps : List (World → Prop)) (W : World) : Prop := Sts w L W ∧ ∀ P ∈ Ps, KpC P ∧ P W
/-- boxes made one behind the other -/
def allocAll (w : World) : List (TypeId × Array Value) → World
  | [] => w
  | (t, cs) :: r => allocAll (w.alloc (.cells cs t)) r
def boxesFrom (n : Nat) : List (TypeId × Array Value) → List (Nat × TypeId × Array Value)
  | [] => []
  | (t, cs) :: r => (n, t, cs) :: boxesFrom (n + 1) r
section
variable {w W W' : World} {L : List (Nat × TypeId × Array Value)} {Ps : List (World → Prop)}
theorem SP.below (h : SP w L Ps W) : Below w.heap.size w W := h.1.2.2
theorem SP.kp (h : SP w L Ps W) {P : World → Prop} (k : Nat) (hk : Ps[k]? = some P) : KpC P := (h.2 P (List.mem_of_getElem? hk)).1
theorem SP.get (h : SP w L Ps W) {P : World → Prop} (k : Nat) (hk : Ps[k]? = some P) : P W := (h.2 P (List.mem_of_getElem? hk)).2
theorem SP.blk (h : SP w L Ps W) (i : Nat) {a : Nat} {t : TypeId} {cs : Array Value} (hi : L[i]? = some (a, t, cs)) : Blk W a t cs := h.1.blk i hi
theorem SP.kept (h : SP w L Ps W) (hb : Below W.heap.size W W') : SP w L Ps W' := ⟨h.1.kept hb, fun P hP => ⟨(h.2 P hP).1, (h.2 P hP).1 _ _ (Kp.below hb) (h.2 P hP).2⟩⟩
theorem SP.alloc (h : SP w L Ps W) (t : TypeId) (cs : Array Value) : SP w (L ++ [(W.heap.size, t, cs)]) Ps (W.alloc (.cells cs t)) :=
  ⟨h.1.alloc t cs, fun P hP => ⟨(h.2 P hP).1, (h.2 P hP).1 _ _ (Kp.below ((Below.refl _ _).alloc (Nat.le_refl _) _)) (h.2 P hP).2⟩⟩
theorem SP.set (h : SP w L Ps W) (j i : Nat) (u : Value) {a : Nat} {t : TypeId} {cs : Array Value} (hj : L[j]? = some (a, t, cs)) (ht : t ∈ boxT) : SP w (L.set j (a, t, cs.setIfInBounds i u)) Ps (W.setCell ⟨a, i, none⟩ u) :=
  ⟨h.1.set j i u hj, fun P hP => ⟨(h.2 P hP).1, (h.2 P hP).1 _ _ ((Kp.refl W).set (h.1.blk j hj) ht u) (h.2 P hP).2⟩⟩
/-- the last stores of a call: a box of a type that slices may have, no facts kept -/
theorem SP.setN (h : SP w L Ps W) (j i : Nat) (u : Value) {a : Nat} {t : TypeId} {cs : Array Value} (hj : L[j]? = some (a, t, cs)) : SP w (L.set j (a, t, cs.setIfInBounds i u)) [] (W.setCell ⟨a, i, none⟩ u) := ⟨h.1.set j i u hj, fun P hP => absurd hP (by simp)⟩
theorem SP.add (h : SP w L Ps W) (P : World → Prop) (hc : KpC P) (hP : P W) : SP w L (Ps ++ [P]) W := ⟨h.1, fun Q hQ => by
  rcases List.mem_append.1 hQ with hQ | hQ
  · exact h.2 Q hQ
  · simp at hQ; subst hQ; exact ⟨hc, hP⟩⟩
theorem SP.sub (h : SP w L Ps W) (Qs : List (World → Prop)) (hs : ∀ Q ∈ Qs, Q ∈ Ps) : SP w L Qs W := ⟨h.1, fun Q hQ => h.2 Q (hs Q hQ)⟩
/-- a box that was made behind the world of the bundle -/
theorem SP.addNew (h : SP w L Ps W) (hb : Below W.heap.size W W') {g : Nat} {t : TypeId} {cs : Array Value} (hB : Blk W' g t cs) (hg : W.heap.size ≤ g) : SP w (L ++ [(g, t, cs)]) Ps W' := by
  have h1 := h.kept hb
  refine ⟨⟨fun b hm => ?_, ?_, h1.1.2.2⟩, h1.2⟩
  · rcases List.mem_append.1 hm with hm | hm
    · exact h1.1.1 b hm
    · simp at hm; subst hm; exact ⟨Nat.le_trans h.1.2.2.size hg, hB⟩
  · rw [List.map_append, List.nodup_append]
    refine ⟨h1.1.2.1, by simp, fun x hx y hy => ?_⟩
    simp at hy; subst hy
    obtain ⟨b, hm, rfl⟩ := List.mem_map.1 hx
    have := (h.1.1 b hm).2.lt
    omega
theorem SP.boxes (h : SP w L Ps W) : ∀ (cs : List (TypeId × Array Value)), SP w (L ++ boxesFrom W.heap.size cs) Ps (allocAll W cs) := by
  intro cs
  induction cs generalizing L W with
  | nil => simpa [boxesFrom, allocAll] using h
  | cons x r ih =>
    obtain ⟨t, c⟩ := x
    have h1 := ih (h.alloc t c)
    rw [World.size_alloc, List.append_assoc] at h1
    exact h1
theorem SP.start (w : World) (cs : List (TypeId × Array Value)) : SP w (boxesFrom w.heap.size cs) [] (allocAll w cs) := by
  have h : SP w [] [] w := ⟨Sts.start w, fun P hP => absurd hP (by simp)⟩
  simpa using h.boxes cs
end
theorem allocAll_below (w : World) (cs : List (TypeId × Array Value)) : Below w.heap.size w (allocAll w cs) := (SP.start w cs).below
end Go.Proofs.Ytpjkcmmmpgncmaa
/- The reference's l6Find and l6Name: what may be asked by a name; what a name is (bounds). -/
namespace Go.Proofs.Ytpjkcmmmpgncmaa
open Go.RowKit
/-- how l6Find leaves -/
def FindP (w : World) (e : Ending) (w' : World) : Prop := ∃ (x : AskV) (b : Bool), e = .returned (.tuple #[.agg #[.int .i64 x.1, .string x.2.1, .string x.2.2.1, .int .i64 x.2.2.2], .bool b]) ∧ x.2.1.size ≤ maxLen ∧ x.2.2.1.size ≤ maxLen ∧ Below w.heap.size w w'
set_option maxRecDepth 100000 in
set_option maxHeartbeats 4000000 in
theorem l6Find_any (A : Option Addr) (ns : List Nm) (c : Nat) (s : ByteArray) (w : World) (hN : NK w A ns) :
    Calls Try.prog 185 #[.slice A ns.length c, .string s] w (FindP w) := by
  have HNN := Lib.hid hN.2
  have hn4 : ns.length ≤ 4 := hN.2.2
  have hbE := allocAll_below w [(128, #[.int .i64 0, .string ⟨#[]⟩, .string ⟨#[]⟩, .int .i64 0])]
  have H : Hid (SP w [(w.heap.size, 128, #[.int .i64 0, .string ⟨#[]⟩, .string ⟨#[]⟩, .int .i64 0])] [fun W => NK W A ns] ((allocAll w [(128, #[.int .i64 0, .string ⟨#[]⟩, .string ⟨#[]⟩, .int .i64 0])]))) := Lib.hid (SP.add (SP.start w [(128, #[.int .i64 0, .string ⟨#[]⟩, .string ⟨#[]⟩, .int .i64 0])]) _ NK.c (NK.c _ _ (Kp.below hbE) hN))
  clear hbE
  go_enter Try.func185, Try.ntmps185
  clear hN
  go_wp2
  go_loopw [6] (fun i wr => ∃ k : Nat, k ≤ ns.length ∧ i = .int .i64 k ∧ Hid (SP w [(w.heap.size, 128, #[.int .i64 0, .string ⟨#[]⟩, .string ⟨#[]⟩, .int .i64 0])] [fun W => NK W A ns] wr)) (fun i _ => ns.length - (intOf i).toNat)
  case atStart => exact ⟨0, by omega, rfl, H⟩
  case round =>
    clear H
    obtain ⟨k, hk, rfl, HQ⟩ := hrel
    have H := Lib.hid HQ.out
    clear HQ
    by_cases hlt : k < ns.length
    case pos =>
      obtain ⟨b, o, rfl, hbl, c0, c1, c2, c3, c4⟩ := Sl.at5 (NK.sl (H.out.get 0 rfl)) hlt
      have HY := Lib.hid (HNN.out.1 ns[k] (List.getElem_mem hlt))
      generalize ns[k] = y at *
      obtain ⟨ys, yk, ya, yb, yn⟩ := y
      simp only at c0 c1 c2 c3 c4 HY
      have hki : (k : Int) < (ns.length : Int) := by omega
      have hki0 : (0 : Int) ≤ (k : Int) := by omega
      cases hq : (ys.toList == s.toList)
      case false =>
        go_wp2
        go_roundw
        case rel => exact ⟨k + 1, by omega, by go_num, H⟩
        case measure => simp [intOf]; omega
      have x0_0 : wr.cell? ⟨w.heap.size, 0, none⟩ = some (.int .i64 0) := (H.out.blk 0 rfl).cell 0
      have x0_1 : wr.cell? ⟨w.heap.size, 1, none⟩ = some (.string ⟨#[]⟩) := (H.out.blk 0 rfl).cell 1
      have x0_2 : wr.cell? ⟨w.heap.size, 2, none⟩ = some (.string ⟨#[]⟩) := (H.out.blk 0 rfl).cell 2
      have x0_3 : wr.cell? ⟨w.heap.size, 3, none⟩ = some (.int .i64 0) := (H.out.blk 0 rfl).cell 3
      have z0_0 := (H.out.blk 0 rfl).frozen 0
      have z0_1 := (H.out.blk 0 rfl).frozen 1
      have z0_2 := (H.out.blk 0 rfl).frozen 2
      have z0_3 := (H.out.blk 0 rfl).frozen 3
      have HZ := Lib.hid (SP.set (SP.set (SP.set (SP.set (H.out) 0 0 (.int .i64 yk) rfl (by decide)) 0 1 (.string ya) rfl (by decide)) 0 2 (.string yb) rfl (by decide)) 0 3 (.int .i64 yn) rfl (by decide))
      clear H
      go_wp2
      refine bodyPost_ret (v := .tuple #[.agg #[.int .i64 yk, .string ya, .string yb, .int .i64 yn], .bool true]) ?_ rfl (⟨(yk, ya, yb, yn), true, rfl, HY.out.2.1, HY.out.2.2, HZ.out.below⟩)
      simp [results, Try.results185, go_sem, x0_0, x0_1, x0_2, x0_3]
    obtain rfl : k = ns.length := by omega
    have x0_0 : wr.cell? ⟨w.heap.size, 0, none⟩ = some (.int .i64 0) := (H.out.blk 0 rfl).cell 0
    have x0_1 : wr.cell? ⟨w.heap.size, 1, none⟩ = some (.string ⟨#[]⟩) := (H.out.blk 0 rfl).cell 1
    have x0_2 : wr.cell? ⟨w.heap.size, 2, none⟩ = some (.string ⟨#[]⟩) := (H.out.blk 0 rfl).cell 2
    have x0_3 : wr.cell? ⟨w.heap.size, 3, none⟩ = some (.int .i64 0) := (H.out.blk 0 rfl).cell 3
    have z0_0 := (H.out.blk 0 rfl).frozen 0
    have z0_1 := (H.out.blk 0 rfl).frozen 1
    have z0_2 := (H.out.blk 0 rfl).frozen 2
    have z0_3 := (H.out.blk 0 rfl).frozen 3
    have HZ := Lib.hid (SP.set (SP.set (SP.set (SP.set (H.out) 0 0 (.int .i64 0) rfl (by decide)) 0 1 (.string ⟨#[]⟩) rfl (by decide)) 0 2 (.string ⟨#[]⟩) rfl (by decide)) 0 3 (.int .i64 0) rfl (by decide))
    clear H
    go_wp2
    refine bodyPost_ret (v := .tuple #[.agg #[.int .i64 0, .string ⟨#[]⟩, .string ⟨#[]⟩, .int .i64 0], .bool false]) ?_ rfl (⟨(0, ⟨#[]⟩, ⟨#[]⟩, 0), false, rfl, Nat.zero_le _, Nat.zero_le _, HZ.out.below⟩)
    simp [results, Try.results185, go_sem, x0_0, x0_1, x0_2, x0_3]
def NameP (w : World) (e : Ending) (w' : World) : Prop := ∃ b : Bool, e = .returned (.bool b) ∧ w = w'
set_option maxRecDepth 100000 in
set_option maxHeartbeats 2000000 in
theorem l6Name_any (s : ByteArray) (w : World) : Calls Try.prog 210 #[.string s] w (NameP w) := by
  by_cases h1 : s.size = 1
  · have e1 : ((s.size : Int) == 1) = true := beq_iff_eq.2 (by omega)
    have e2 : (s.size : Int) = 1 := by omega
    have e3 : (0 : Int) < (s.size : Int) := by omega
    have e4 : 0 < s.size := by omega
    go_enter Try.func210, Try.ntmps210
    go_wp2
    all_goals
      go_ret
      exact ⟨_, rfl, rfl⟩
  · have e1 : ((s.size : Int) == 1) = false := beq_eq_false_iff_ne.2 (by omega)
    have e2 : ¬ (s.size : Int) = 1 := by omega
    go_enter Try.func210, Try.ntmps210
    go_wp2
    go_ret
    exact ⟨_, rfl, rfl⟩
end Go.Proofs.Ytpjkcmmmpgncmaa
