import Derived.Test.YtpjkcmmmpgncmaaM05
import Derived.Test.YtpjkcmmmpgncmaaM19
/- append of a slice that reads as a list to a row of one's own, as a step of a region that draws its order: and where the row lies afterwards. -/
namespace Go.Proofs.Ytpjkcmmmpgncmaa
open Go.RowKit
theorem append_block {P : Program} {w : World} (base : Nat) (t ty e : TypeId) (i : TypeInfo) (z : Value) (size bytes : Nat) (ht : P.underlying t = some (.slice e)) (hi : P.info? e = some i) (hz : i.zero = some z)
    (hsize : i.size = size) (hby : i.bytes = bytes) (v : Value) (n : Nat) (xs : List Value) (hown : w.ownsRow base e size v n xs)
    (a : Addr) (m c : Nat) (news : List Value) (hl : news.length = m * size) (hnews : ∀ j u, news[j]? = some u → w.cell? (a.add j) = some u) (h1 : ∀ u ∈ news, u.oneCell' = true)
    (h63 : n + m ≤ maxLen) (hbytes : (n + m) * bytes ≤ 140737488355328) (v' : Value) (w' : World) (hr : (Builtin.append_ #[t, t] ty #[v, .slice (some a) m c]).run P w = .ok v' w') :
    v'.ownBlock = v.ownBlock ∨ ∃ b, v'.ownBlock = some b ∧ w.heap.size ≤ b := by
  subst hsize
  subst hby
  have hsmall : n + m ≤ 9223372036854775807 := by simp only [maxLen] at h63; omega
  rcases hown.2 with ⟨rfl, rfl⟩ | ⟨g, cap, cur, rfl, hbg, hg, hnc, hcm, hcs, htake⟩
  · by_cases hm : m = 0
    · subst hm
      have hr2 : (Builtin.append_ #[t, t] ty #[.slice none 0 0, .slice (some a) 0 c]).run P w = .ok (.slice none 0 0) w := by
        simp [Builtin.append_, run_underlying ht, sizeOf, typeInfo, hi, Builtin.lenOf, Builtin.firstCells, loadCells, loadCellsFrom]
      rw [hr2] at hr
      injection hr with e1 e2
      subst e1
      exact .inl rfl
    · have hr2 := Go.run_append_nil (P := P) w t ty e i z ht hi hz a m c news hl hnews (by omega) (by omega) (by have hb := hbytes; simp only [Nat.zero_add] at hb; omega)
      rw [hr2] at hr
      injection hr with e1 e2
      subst e1
      exact .inr ⟨w.heap.size, rfl, Nat.le_refl _⟩
  · by_cases hroom : n + m ≤ cap
    · have hfit : n * i.size + news.length ≤ cur.size := by rw [hl, hcs, ← Nat.add_mul]; exact Nat.mul_le_mul_right _ hroom
      have hr2 := run_append_room (P := P) w t ty e i ht hi g n cap cur hg a m c news hl hnews h1 hroom hfit
      rw [hr2] at hr
      injection hr with e1 e2
      subst e1
      exact .inl rfl
    · have holds : ∀ j u, xs[j]? = some u → w.cell? ((⟨g, 0, none⟩ : Addr).add j) = some u := hown.cells (g := g) rfl
      have hr2 := run_append_grow (P := P) w t ty e i z ht hi hz ⟨g, 0, none⟩ n cap xs hown.1 holds a m c news hl hnews (by omega) (by omega) (growslice_fits (by omega) hbytes)
      rw [hr2] at hr
      injection hr with e1 e2
      subst e1
      exact .inr ⟨w.heap.size, rfl, Nat.le_refl _⟩
theorem step_append_slB {α : Type} {enc : α → List Value} {P : Program} {w : World} {ops : Array Oper} {o : Oper} {a : Act} {K : Act → World → Prop} {Q : Exit → Act → World → Prop} {E : Prop} (hgd : o.guard = none) (s x : Operand) (t : TypeId)
    (ho : o.op = .call { callee := .builtin .append, args := #[s, x], argTypes := #[t, t] })
    (base : Nat) (e : TypeId) (i : TypeInfo) (z : Value) (size bytes : Nat) (ht : P.underlying t = some (.slice e)) (hi : P.info? e = some i) (hz : i.zero = some z)
    (hsize : i.size = size) (hby : i.bytes = bytes) (hzs : z.cells.size = size) (hsz : 0 < size)
    (v : Value) (n : Nat) (xs : List Value) (hs : a.eval s = v) (hown : w.ownsRow base e size v n xs)
    (henc : ∀ x, (enc x).length = size) (A : Option Addr) (l : List α) (m c : Nat) (hm : m = l.length) (hx : a.eval x = .slice A m c) (hS : Sl enc size w A l) (h1 : ∀ u ∈ l.flatMap enc, u.oneCell' = true)
    (h63 : n + l.length ≤ maxLen) (hbytes : (n + l.length) * bytes ≤ 140737488355328) (hbase : base ≤ w.heap.size)
    (h : ∀ v' w', w'.ownsRow base e size v' (n + l.length) (xs ++ l.flatMap enc) → w.grownBy w' v.ownBlock → (v'.ownBlock = v.ownBlock ∨ ∃ b, v'.ownBlock = some b ∧ w.heap.size ≤ b) → K (a.put o.dst v') w') :
    if Region.wanted o (yielded ops a.tmps) = true then Oper.wp P o a w K Q else E := by
  rw [if_pos (by simp [Region.wanted, hgd])]
  subst hm
  rcases A with _ | ad
  · have hl : l = [] := by
      rcases Nat.eq_zero_or_pos l.length with h0 | h0
      · exact List.eq_nil_of_length_eq_zero h0
      · obtain ⟨b, o, he, _⟩ := hS h0; cases he
    subst hl
    have hrun := append_nil (P := P) (w := w) base t o.type e i size ht hi v n xs hown c
    unfold Oper.wp
    simp [execOp, ho, resolve, invoke, builtin, hs, hx, hrun, Result.andThen]
    exact h v w (by simpa using hown) (World.grownBy.refl w _) (.inl rfl)
  · obtain ⟨v', w', hr, h2, h3, _⟩ := run_append_own (P := P) w base t o.type e i z size bytes ht hi hz hsize hby hzs hsz v n xs hown ad l.length c (l.flatMap enc) (flat_len henc l) (Sl.cells henc hS) h1 h63 hbytes hbase
    have h5 := append_block base t o.type e i z size bytes ht hi hz hsize hby v n xs hown ad l.length c (l.flatMap enc) (flat_len henc l) (Sl.cells henc hS) h1 h63 hbytes v' w' hr
    unfold Oper.wp execOp
    simp only [ho, resolve, invoke, builtin, Sem.run_bind, Sem.run_pure, Result.andThen_ok, List.map_toArray, List.map_cons, List.map_nil, hs, hx, hr]
    exact h v' w' h2 h3 h5
theorem wpList_append_slM {α : Type} {enc : α → List Value} {P : Program} {w : World} {ops : Array Oper} {rest : List Oper} {o : Oper} {a : Act} {Q : Exit → Act → World → Prop} (hgd : o.guard = none) (s x : Operand) (t : TypeId)
    (ho : o.op = .call { callee := .builtin .append, args := #[s, x], argTypes := #[t, t] })
    (base : Nat) (e : TypeId) (i : TypeInfo) (z : Value) (size bytes : Nat) (ht : P.underlying t = some (.slice e)) (hi : P.info? e = some i) (hz : i.zero = some z)
    (hsize : i.size = size) (hby : i.bytes = bytes) (hzs : z.cells.size = size) (hsz : 0 < size)
    (v : Value) (n : Nat) (xs : List Value) (hs : a.eval s = v) (hown : w.ownsRow base e size v n xs)
    (henc : ∀ x, (enc x).length = size) (A : Option Addr) (l : List α) (m c : Nat) (hm : m = l.length) (hx : a.eval x = .slice A m c) (hS : Sl enc size w A l) (h1 : ∀ u ∈ l.flatMap enc, u.oneCell' = true)
    (h63 : n + l.length ≤ maxLen) (hbytes : (n + l.length) * bytes ≤ 140737488355328) (hbase : base ≤ w.heap.size)
    (h : ∀ v' w', w'.ownsRow base e size v' (n + l.length) (xs ++ l.flatMap enc) → w.grownBy w' v.ownBlock → (v'.ownBlock = v.ownBlock ∨ ∃ b, v'.ownBlock = some b ∧ w.heap.size ≤ b) → wpList P ops Q rest (a.put o.dst v') w') : wpList P ops Q (o :: rest) a w :=
  wpList_step fun K hK => step_append_slB (E := K (a.put o.dst undef) w) hgd s x t ho base e i z size bytes ht hi hz hsize hby hzs hsz v n xs hs hown henc A l m c hm hx hS h1 h63 hbytes hbase (fun v' w' h2 h3 h4 => hK _ _ (h v' w' h2 h3 h4))
end Go.Proofs.Ytpjkcmmmpgncmaa
/- The reference's l2Write: one write done to a row of one's own. -/
namespace Go.Proofs.Ytpjkcmmmpgncmaa
open Go.RowKit
@[go_sem] theorem binOp_string_leq_s (t : TypeId) (a b : ByteArray) : binOp .leq t (.string a) (.string b) = pure (.bool (Op.bytesLess a.toList b.toList || a.toList == b.toList)) := by simp [binOp, Op.stringOp]
theorem leq_yes {a b : ByteArray} (h : ¬ kLt b a) : (Op.bytesLess a.toList b.toList || a.toList == b.toList) = true := by
  by_cases h1 : kLt a b
  · unfold kLt at h1; simp [h1]
  · have := kLt_tri h1 h
    simp [this]
/-- the row when the first k versions are seen to -/
def midC (key : ByteArray) (now : Int) (l : List Ver) (k : Nat) : List Ver := (l.take k).map (closeV key now) ++ l.drop k
theorem midC_zero (key : ByteArray) (now : Int) (l : List Ver) : midC key now l 0 = l := by simp [midC]
theorem midC_all (key : ByteArray) (now : Int) (l : List Ver) : midC key now l l.length = closeL key now l := by simp [midC, closeL]
theorem midC_len (key : ByteArray) (now : Int) (l : List Ver) (k : Nat) : (midC key now l k).length = l.length := by simp [midC]; omega
theorem midC_get (key : ByteArray) (now : Int) (l : List Ver) {k : Nat} (h : k < l.length) : (midC key now l k)[k]? = some l[k] := by
  unfold midC
  rw [List.getElem?_append_right (by simp; omega), List.length_map, List.length_take, Nat.min_eq_left (by omega), Nat.sub_self, List.getElem?_drop]
  simp
theorem midC_succ (key : ByteArray) (now : Int) (l : List Ver) {k : Nat} (h : k < l.length) : midC key now l (k + 1) = (midC key now l k).set k (closeV key now l[k]) := by
  unfold midC
  have hd := List.drop_eq_getElem_cons h
  rw [List.take_succ_eq_append_getElem h, List.map_append, List.set_append_right _ _ (by simp; omega), List.length_map, List.length_take, Nat.min_eq_left (by omega), Nat.sub_self]
  simp only [List.map_cons, List.map_nil, List.append_assoc, List.cons_append, List.nil_append]
  rw [hd]
  rfl
theorem midC_keep (key : ByteArray) (now : Int) (l : List Ver) {k : Nat} (h : k < l.length) (he : ¬ (l[k].1 = key ∧ l[k].2.2.2 = 0)) : midC key now l (k + 1) = midC key now l k := by
  rw [midC_succ key now l h, closeV_same he]
  apply List.ext_getElem?
  intro j
  by_cases hj : k = j
  · subst hj
    rw [List.getElem?_set_self (by rw [midC_len]; exact h), midC_get key now l h]
  · rw [List.getElem?_set_ne hj]
theorem midC_turn (key : ByteArray) (now : Int) (l : List Ver) {k : Nat} (h : k < l.length) (he : l[k].1 = key ∧ l[k].2.2.2 = 0) : midC key now l (k + 1) = (midC key now l k).set k (l[k].1, l[k].2.1, l[k].2.2.1, now) := by
  rw [midC_succ key now l h]; unfold closeV; rw [if_pos he]
theorem own_rowC {w : World} {B c : Nat} {A : Option Addr} {l : List Ver} (h : OwnV w B (.slice A l.length c) l) {m : Nat} {y : Ver} (hy : l[m]? = some y) :
    ∃ g, A = some ⟨g, 0, none⟩ ∧ g < w.heap.size ∧ w.cell? ⟨g, m * 4, none⟩ = some (.string y.1) ∧ w.cell? ⟨g, m * 4 + 3, none⟩ = some (.int .i64 y.2.2.2) := by
  obtain ⟨hm, e⟩ := List.getElem?_eq_some_iff.1 hy
  subst e
  exact own_row h hm
theorem Sl.drop4 {w : World} {b o : Nat} {l : List Ver} (h : Sl encVer 4 w (some ⟨b, o, none⟩) l) (k : Nat) : Sl encVer 4 w (some ⟨b, o + k * 4, none⟩) (l.drop k) := by
  intro hl
  rw [List.length_drop] at hl
  obtain ⟨b', o', he, hb, hc⟩ := h (by omega)
  simp at he
  obtain ⟨rfl, rfl⟩ := he
  refine ⟨b, o + k * 4, rfl, hb, fun i j x hx hj => ?_⟩
  rw [List.getElem?_drop] at hx
  have := hc (k + i) j x hx hj
  rw [show o + k * 4 + i * 4 + j = o + (k + i) * 4 + j by omega]
  exact this
theorem own_pre {w : World} {B c k : Nat} {A : Option Addr} {n : Nat} {l : List Ver} (h : OwnV w B (.slice A n c) l) (hk : k ≤ l.length) : w.ownsRow B 88 4 (.slice A k c) k ((l.take k).flatMap encVer) := by
  refine ⟨by rw [flat_len encVer_len, List.length_take, Nat.min_eq_left hk], ?_⟩
  rcases h.2 with ⟨h1, h2⟩ | ⟨g, cap, cur, h1, h2, h3, h4, h5, h6, h7⟩
  · injection h1 with e1 e2 e3
    subst e1; subst e3
    exact .inl ⟨by rw [show k = 0 by omega], by omega⟩
  · injection h1 with e1 e2 e3
    subst e1; subst e3
    refine .inr ⟨g, c, cur, rfl, h2, h3, by omega, h5, h6, ?_⟩
    have h8 : (l.take k).flatMap encVer = (l.flatMap encVer).take (k * 4) := by
      have hlen : ((l.take k).flatMap encVer).length = k * 4 := by rw [flat_len encVer_len, List.length_take, Nat.min_eq_left hk]
      have hsp := flat_split l k
      rw [hsp]
      exact (List.take_left' hlen).symm
    rw [h8, ← h7, List.take_take, Nat.min_eq_left (by omega)]
theorem gbelow {w w1 : World} {r : Option Nat} (h : Below w.heap.size w w1) : w.grownBy w1 r := ⟨h.os, h.tape, h.output, h.size, fun k hk _ => h.block k hk⟩
theorem gtrans {w w1 w2 : World} {r : Option Nat} (h : w.grownBy w1 r) (h2 : w1.grownBy w2 r) : w.grownBy w2 r := ⟨h2.os.trans h.os, h2.tape.trans h.tape, h2.output.trans h.output, Nat.le_trans h.size h2.size, fun k hk hne => (h2.block k (Nat.lt_of_lt_of_le hk h.size) hne).trans (h.block k hk hne)⟩
theorem Sl.drop4s {w : World} {B g n c : Nat} {l : List Ver} (h : OwnV w B (.slice (some ⟨g, 0, none⟩) n c) l) (k : Nat) : Sl encVer 4 w (some ⟨g, k * 4, none⟩) (l.drop k) := by
  obtain ⟨A, c', e, _, _, hS⟩ := h.sl
  injection e with e1 _ _
  subst e1
  have := Sl.drop4 hS k
  rwa [Nat.zero_add] at this
theorem Sl.dropz {w : World} {B g c m : Nat} {l : List Ver} (_h : OwnV w B (.slice (some ⟨g, 0, none⟩) m c) l) (hl : l.length = m) : Sl encVer 4 w (some ⟨g, 0, none⟩) (l.drop m) := by
  intro h; rw [List.length_drop] at h; omega
theorem Sl.nil_of {w : World} {A : Option Addr} {l : List Ver} (h : l.length = 0) : Sl encVer 4 w A l := fun h2 => by omega
theorem sl_one {w : World} {g : Nat} {x : Ver} (h : Blk w g 88 #[.string x.1, .int .i64 x.2.1, .int .i64 x.2.2.1, .int .i64 x.2.2.2]) : Sl encVer 4 w (some ⟨g, 0, none⟩) [x] := by
  intro _
  refine ⟨g, 0, rfl, h.lt, fun i j y hy hj => ?_⟩
  obtain ⟨rfl, rfl⟩ : i = 0 ∧ y = x := by
    cases i with
    | zero => simp at hy; exact ⟨rfl, hy.symm⟩
    | succ i => simp at hy
  rw [h.cell]
  have hj4 : j = 0 ∨ j = 1 ∨ j = 2 ∨ j = 3 := by omega
  rcases hj4 with rfl | rfl | rfl | rfl <;> rfl
theorem own_some {w : World} {B p : Nat} {v : Value} {xs : List Value} {x : Ver} (h : w.ownsRow B 88 4 v (p + [x].length) xs) :
    ∃ g2 cap2, v = .slice (some ⟨g2, 0, none⟩) (p + 1) cap2 ∧ w.ownsRow B 88 4 (.slice (some ⟨g2, 0, none⟩) (p + 1) cap2) (p + 1) xs := by
  rcases h.2 with ⟨rfl, h2⟩ | ⟨g, cap, cur, rfl, h2⟩
  · simp at h2
  · exact ⟨g, cap, rfl, h⟩
theorem own_done {w : World} {B p : Nat} {v : Value} {C : List Ver} {x : Ver} (hp : p ≤ C.length) (h : w.ownsRow B 88 4 v (p + 1 + (C.drop p).length) ((C.take p).flatMap encVer ++ [x].flatMap encVer ++ (C.drop p).flatMap encVer)) : OwnV w B v (C.take p ++ x :: C.drop p) := by
  have e : (C.take p ++ x :: C.drop p).length = p + 1 + (C.drop p).length := by simp; omega
  unfold OwnV
  rw [e, ins_flat]
  simpa using h
/-- a growth behind what turned nothing below -/
theorem grow_at {wr w1 W2 w3 : World} {v : Value} (hb : Below w1.heap.size w1 W2) (_h : wr.heap.size ≤ w1.heap.size) (hg : W2.grownBy w3 v.ownBlock) : w1.grownBy w3 v.ownBlock := gtrans (gbelow hb) hg
theorem block_at {w wr w1 W2 : World} {v v3 : Value} {r : Option Nat} (hb : Below w1.heap.size w1 W2) (h : wr.heap.size ≤ w1.heap.size) (hw : w.grownBy wr r) (hl : v3.ownBlock = v.ownBlock ∨ ∃ b, v3.ownBlock = some b ∧ W2.heap.size ≤ b) : ∀ j, v3.ownBlock = some j → v.ownBlock = some j ∨ w.heap.size ≤ j := by
  intro j hj
  rcases hl with e | ⟨b, e, hbb⟩
  · exact .inl (e ▸ hj)
  · rw [e] at hj; injection hj with hj; subst hj
    have := hb.size
    have := hw.size
    exact .inr (by omega)
theorem tail_at {wr W2 w3 : World} {At : Option Addr} {ct : Nat} {l : List Ver} {v : Value} (ht : OwnV W2 wr.heap.size (.slice At l.length ct) l) (hg : W2.grownBy w3 v.ownBlock) (hlt : ∀ j, v.ownBlock = some j → j < wr.heap.size) : Sl encVer 4 w3 At l := by
  have h3 : OwnV w3 wr.heap.size (.slice At l.length ct) l := by
    refine ht.kept hg ?_
    cases hv : (Value.slice At l.length ct).ownBlock with
    | none => exact .inl rfl
    | some j => exact .inr (fun e => by have := (ht.lt j hv).1; have := hlt j e.symm; omega)
  obtain ⟨A', c', e, _, _, hS⟩ := h3.sl
  injection e with e1 _ _
  subst e1; exact hS
theorem grow_two {w wr w1 w3 w4 : World} {v v3 : Value} (h1 : w.grownBy wr v.ownBlock) (h2 : wr.grownBy w1 v.ownBlock) (h3 : w1.grownBy w3 v.ownBlock) (h4 : w3.grownBy w4 v3.ownBlock) (hj : ∀ j, v3.ownBlock = some j → v.ownBlock = some j ∨ w.heap.size ≤ j) : w.grownBy w4 v.ownBlock := by
  have h13 := gtrans (gtrans h1 h2) h3
  refine ⟨h4.os.trans h13.os, h4.tape.trans h13.tape, h4.output.trans h13.output, Nat.le_trans h13.size h4.size, fun k hk hne => ?_⟩
  refine (h4.block k (Nat.lt_of_lt_of_le hk h13.size) (fun e => ?_)).trans (h13.block k hk hne)
  rcases hj k e.symm with e2 | e2
  · exact hne e2.symm
  · omega
/-- how it stands between two rounds -/
def LW (w : World) (N B : Nat) (v : Value) (x : Wri) (l : List Ver) (W : World) : Prop :=
  OwnV W B v l ∧ Blk W N 46 #[.string x.1, .int .i64 x.2.1, .bool x.2.2] ∧ w.grownBy W v.ownBlock
set_option maxRecDepth 100000 in
set_option maxHeartbeats 2000000 in
theorem l2Write_any (B : Nat) (A : Option Addr) (c : Nat) (l : List Ver) (x : Wri) (now : Int) (w : World) (hB : B ≤ w.heap.size) (hn : l.length ≤ 1000) (hown : OwnV w B (.slice A l.length c) l) :
    Calls Try.prog 108 #[.slice A l.length c, .agg #[.string x.1, .int .i64 x.2.1, .bool x.2.2], .int .i64 now] w fun e w' => ∃ v', e = .returned v' ∧ OwnV w' B v' (writeS now l x) ∧ w.grownBy w' (Value.slice A l.length c).ownBlock := by
  obtain ⟨i0, hi, hz0, hz1, hz2⟩ := info_parts infoVer
  have HI := Lib.hid (⟨hi, hz0, hz1, hz2⟩ : _ ∧ _ ∧ _ ∧ _)
  clear hi hz0 hz1 hz2
  obtain ⟨kk, n, gn⟩ := x
  simp only
  obtain ⟨A0, c0, e0, hlc, hcm, _⟩ := hown.sl
  injection e0 with e1 e2 e3
  subst e1; subst e3
  have hbx := (Below.refl w.heap.size w).alloc (Nat.le_refl _) (.cells #[.string kk, .int .i64 n, .bool gn] 46)
  have H0 := Lib.hid (show LW w w.heap.size B (.slice A l.length c) (kk, n, gn) (midC kk now l 0) (w.alloc (.cells #[.string kk, .int .i64 n, .bool gn] 46)) from ⟨by rw [midC_zero]; exact own_kept hown hbx, Blk.new _ _ _, gbelow hbx⟩)
  clear hbx hown
  go_enter Try.func108, Try.ntmps108
  go_wp2
  go_loopw [7, 8] (fun a i wr => ∃ k : Nat, k ≤ l.length ∧ i = .int .i64 k ∧ a = .int .i64 (atOf kk (l.take k) : Nat) ∧ Hid (LW w w.heap.size B (.slice A l.length c) (kk, n, gn) (midC kk now l k) wr)) (fun _ i _ => l.length - (intOf i).toNat)
  case atStart => exact ⟨0, by omega, rfl, rfl, H0.out⟩
  case round =>
    obtain ⟨k, hk, rfl, rfl, HL⟩ := hrel
    obtain ⟨hown, hbx, hgr⟩ := HL.out
    clear HL
    by_cases hlt : k < l.length
    · obtain ⟨g, hA, hgl, k0, k3⟩ := own_rowC (l := midC kk now l k) (by rw [midC_len]; exact hown) (midC_get kk now l hlt)
      subst hA
      have HKP := Lib.hid (midC_keep kk now l hlt)
      have HTN := Lib.hid (midC_turn kk now l hlt)
      have HAT := Lib.hid (atOf_take kk l k hlt)
      have HGT := Lib.hid (midC_get kk now l hlt)
      have x0 : wr.cell? ⟨w.heap.size, 0, none⟩ = some (.string kk) := hbx.cell 0
      have lx := hbx.lt
      have HOW := Lib.hid hown
      have HBX := Lib.hid hbx
      have HGR := Lib.hid hgr
      have HNE := Lib.hid (own_neW hown hbx)
      have HML := Lib.hid (midC_len kk now l k)
      clear hown hbx hgr
      generalize l[k] = y at *
      have hki : (k : Int) < (l.length : Int) := by omega
      by_cases hk1 : y.1 = kk
      · have p4 : (y.1.toList == kk.toList) = true := beq_iff_eq.2 (by rw [hk1])
        have p6 := leq_yes (show ¬ kLt kk y.1 by rw [hk1]; exact kLt_irrefl _)
        rw [if_neg (show ¬ kLt kk y.1 by rw [hk1]; exact kLt_irrefl _)] at HAT
        by_cases hk2 : y.2.2.2 = 0
        · have HC := Lib.hid (HTN.out ⟨hk1, hk2⟩)
          have p5 : (y.2.2.2 == 0) = true := beq_iff_eq.2 hk2
          clear hk1 hk2
          go_wp2_with fail
          refine wp_region_below (by kernel_rfl) (by kernel_rfl) ?_
          iterate 16 (first | go_big_quiet_skip | (refine wpQuiet_step (fun K hK => ?_); go_simp; first | (apply Exists.intro; refine ⟨fun W hW => ?_, hK _ ?_⟩; (first | rfl | (have e0 := (hW.cell (p := ⟨g, k * 4, none⟩) hgl).trans k0; have e1 := (hW.cell (p := ⟨w.heap.size, 0, none⟩) lx).trans x0; have e3 := (hW.cell (p := ⟨g, k * 4 + 3, none⟩) hgl).trans k3; go_simp; rfl)); clear hK K) | (refine hK _ ?_; clear hK K)))
          refine wpQuiet_nil ?_
          intro W hW
          have u0 := (hW.cell (p := ⟨g, k * 4, none⟩) hgl).trans k0
          have u1 := (hW.cell (p := ⟨w.heap.size, 0, none⟩) lx).trans x0
          have u3 := (hW.cell (p := ⟨g, k * 4 + 3, none⟩) hgl).trans k3
          have hoW : OwnV W B (.slice (some ⟨g, 0, none⟩) l.length c) (midC kk now l k) := own_kept HOW.out hW
          have hoW' := hoW
          unfold OwnV at hoW'
          rw [HML.out] at hoW'
          have u4 := World.ownsRow.frozenAt hoW' (k * 4 + 3)
          have hst := World.ownsRow.stored hoW' (k * 4 + 3) (.int .i64 now)
          have hgN : g ≠ w.heap.size := fun e => HNE.out (by simp [Value.ownBlock, e])
          have hbx2 := (HBX.out.kept hW).far (p := ⟨g, k * 4 + 3, none⟩) (by simp; omega) (.int .i64 now)
          have v0 : (W.setCell ⟨g, k * 4 + 3, none⟩ (.int .i64 now)).cell? ⟨g, k * 4, none⟩ = some (.string y.1) := (World.cell?_setCell_other _ _ _ _ (by simp)).trans u0
          have v1 : (W.setCell ⟨g, k * 4 + 3, none⟩ (.int .i64 now)).cell? ⟨w.heap.size, 0, none⟩ = some (.string kk) := hbx2.cell 0
          have gl2 : g < (W.setCell ⟨g, k * 4 + 3, none⟩ (.int .i64 now)).heap.size := by have := hW.size; simp; omega
          have lx2 := hbx2.lt
          have HLW := Lib.hid (show LW w w.heap.size B (.slice (some ⟨g, 0, none⟩) l.length c) (kk, n, gn) (midC kk now l (k + 1)) (W.setCell ⟨g, k * 4 + 3, none⟩ (.int .i64 now)) from ⟨by rw [HC.out]; exact own_set4 (by rw [HML.out]; exact hst.1) y HGT.out, hbx2, gtrans (gtrans HGR.out (gbelow hW)) hst.2⟩)
          clear hoW hoW' hst hbx2 hW
          go_wp2_with fail
          generalize W.setCell ⟨g, k * 4 + 3, none⟩ (.int .i64 now) = W1 at *
          clear u0 u1 u3 u4
          refine wp_region_below (by kernel_rfl) (by kernel_rfl) ?_
          iterate 8 (refine wpQuiet_step (fun K hK => ?_); go_simp; first | (apply Exists.intro; refine ⟨fun W hW => ?_, hK _ ?_⟩; (first | rfl | (have f0 := (hW.cell (p := ⟨g, k * 4, none⟩) gl2).trans v0; have f1 := (hW.cell (p := ⟨w.heap.size, 0, none⟩) lx2).trans v1; go_simp; rfl)); clear hK K) | (refine hK _ ?_; clear hK K))
          refine wpQuiet_nil ?_
          intro W hW
          have HLW2 := Lib.hid (show LW w w.heap.size B (.slice (some ⟨g, 0, none⟩) l.length c) (kk, n, gn) (midC kk now l (k + 1)) _ from ⟨own_kept HLW.out.1 hW, HLW.out.2.1.kept hW, gtrans HLW.out.2.2 (gbelow hW)⟩)
          go_wp2
          go_roundw
          case rel => exact ⟨k + 1, by omega, by go_num, by rw [HAT.out]; simp, HLW2.out⟩
          case measure => simp [intOf]; omega
        · have HC := Lib.hid (HKP.out (fun h => hk2 h.2))
          have p5 : (y.2.2.2 == 0) = false := beq_eq_false_iff_ne.2 hk2
          clear hk1 hk2
          go_wp2_with fail
          refine wp_region_below (by kernel_rfl) (by kernel_rfl) ?_
          iterate 16 (first | go_big_quiet_skip | (refine wpQuiet_step (fun K hK => ?_); go_simp; first | (apply Exists.intro; refine ⟨fun W hW => ?_, hK _ ?_⟩; (first | rfl | (have e0 := (hW.cell (p := ⟨g, k * 4, none⟩) hgl).trans k0; have e1 := (hW.cell (p := ⟨w.heap.size, 0, none⟩) lx).trans x0; have e3 := (hW.cell (p := ⟨g, k * 4 + 3, none⟩) hgl).trans k3; go_simp; rfl)); clear hK K) | (refine hK _ ?_; clear hK K)))
          refine wpQuiet_nil ?_
          intro W hW
          have v0 := (hW.cell (p := ⟨g, k * 4, none⟩) hgl).trans k0
          have v1 := (hW.cell (p := ⟨w.heap.size, 0, none⟩) lx).trans x0
          have gl2 : g < W.heap.size := Nat.lt_of_lt_of_le hgl hW.size
          have lx2 : w.heap.size < W.heap.size := Nat.lt_of_lt_of_le lx hW.size
          have HLW := Lib.hid (show LW w w.heap.size B (.slice (some ⟨g, 0, none⟩) l.length c) (kk, n, gn) (midC kk now l (k + 1)) W from ⟨by rw [HC.out]; exact own_kept HOW.out hW, HBX.out.kept hW, gtrans HGR.out (gbelow hW)⟩)
          clear hW
          go_wp2_with fail
          generalize W = W1 at *
          refine wp_region_below (by kernel_rfl) (by kernel_rfl) ?_
          iterate 8 (refine wpQuiet_step (fun K hK => ?_); go_simp; first | (apply Exists.intro; refine ⟨fun W hW => ?_, hK _ ?_⟩; (first | rfl | (have f0 := (hW.cell (p := ⟨g, k * 4, none⟩) gl2).trans v0; have f1 := (hW.cell (p := ⟨w.heap.size, 0, none⟩) lx2).trans v1; go_simp; rfl)); clear hK K) | (refine hK _ ?_; clear hK K))
          refine wpQuiet_nil ?_
          intro W hW
          have HLW2 := Lib.hid (show LW w w.heap.size B (.slice (some ⟨g, 0, none⟩) l.length c) (kk, n, gn) (midC kk now l (k + 1)) _ from ⟨own_kept HLW.out.1 hW, HLW.out.2.1.kept hW, gtrans HLW.out.2.2 (gbelow hW)⟩)
          go_wp2
          go_roundw
          case rel => exact ⟨k + 1, by omega, by go_num, by rw [HAT.out]; simp, HLW2.out⟩
          case measure => simp [intOf]; omega
      · have p4 : (y.1.toList == kk.toList) = false := beq_eq_false_iff_ne.2 (fun h => hk1 ((bytes_eq_iff _ _).1 h))
        have HC := Lib.hid (HKP.out (fun h => hk1 h.1))
        by_cases hlt2 : kLt kk y.1
        · have p6 : Op.bytesLess y.1.toList kk.toList = false := by have := kLt_asym hlt2; unfold kLt at this; simpa using this
          rw [if_pos hlt2] at HAT
          clear hk1 hlt2
          go_wp2_with fail
          refine wp_region_below (by kernel_rfl) (by kernel_rfl) ?_
          iterate 16 (first | go_big_quiet_skip | (refine wpQuiet_step (fun K hK => ?_); go_simp; first | (apply Exists.intro; refine ⟨fun W hW => ?_, hK _ ?_⟩; (first | rfl | (have e0 := (hW.cell (p := ⟨g, k * 4, none⟩) hgl).trans k0; have e1 := (hW.cell (p := ⟨w.heap.size, 0, none⟩) lx).trans x0; go_simp; rfl)); clear hK K) | (refine hK _ ?_; clear hK K)))
          refine wpQuiet_nil ?_
          intro W hW
          have v0 := (hW.cell (p := ⟨g, k * 4, none⟩) hgl).trans k0
          have v1 := (hW.cell (p := ⟨w.heap.size, 0, none⟩) lx).trans x0
          have gl2 : g < W.heap.size := Nat.lt_of_lt_of_le hgl hW.size
          have lx2 : w.heap.size < W.heap.size := Nat.lt_of_lt_of_le lx hW.size
          have HLW := Lib.hid (show LW w w.heap.size B (.slice (some ⟨g, 0, none⟩) l.length c) (kk, n, gn) (midC kk now l (k + 1)) W from ⟨by rw [HC.out]; exact own_kept HOW.out hW, HBX.out.kept hW, gtrans HGR.out (gbelow hW)⟩)
          clear hW
          go_wp2_with fail
          generalize W = W1 at *
          refine wp_region_below (by kernel_rfl) (by kernel_rfl) ?_
          iterate 8 (refine wpQuiet_step (fun K hK => ?_); go_simp; first | (apply Exists.intro; refine ⟨fun W hW => ?_, hK _ ?_⟩; (first | rfl | (have f0 := (hW.cell (p := ⟨g, k * 4, none⟩) gl2).trans v0; have f1 := (hW.cell (p := ⟨w.heap.size, 0, none⟩) lx2).trans v1; go_simp; rfl)); clear hK K) | (refine hK _ ?_; clear hK K))
          refine wpQuiet_nil ?_
          intro W hW
          have HLW2 := Lib.hid (show LW w w.heap.size B (.slice (some ⟨g, 0, none⟩) l.length c) (kk, n, gn) (midC kk now l (k + 1)) _ from ⟨own_kept HLW.out.1 hW, HLW.out.2.1.kept hW, gtrans HLW.out.2.2 (gbelow hW)⟩)
          go_wp2
          go_roundw
          case rel => exact ⟨k + 1, by omega, by go_num, by rw [HAT.out], HLW2.out⟩
          case measure => simp [intOf]; omega
        · have p6 : Op.bytesLess y.1.toList kk.toList = true := by
            by_cases h : kLt y.1 kk
            · exact h
            · exact absurd (kLt_tri h hlt2) hk1
          rw [if_neg hlt2] at HAT
          clear hk1 hlt2
          go_wp2_with fail
          refine wp_region_below (by kernel_rfl) (by kernel_rfl) ?_
          iterate 16 (first | go_big_quiet_skip | (refine wpQuiet_step (fun K hK => ?_); go_simp; first | (apply Exists.intro; refine ⟨fun W hW => ?_, hK _ ?_⟩; (first | rfl | (have e0 := (hW.cell (p := ⟨g, k * 4, none⟩) hgl).trans k0; have e1 := (hW.cell (p := ⟨w.heap.size, 0, none⟩) lx).trans x0; go_simp; rfl)); clear hK K) | (refine hK _ ?_; clear hK K)))
          refine wpQuiet_nil ?_
          intro W hW
          have v0 := (hW.cell (p := ⟨g, k * 4, none⟩) hgl).trans k0
          have v1 := (hW.cell (p := ⟨w.heap.size, 0, none⟩) lx).trans x0
          have gl2 : g < W.heap.size := Nat.lt_of_lt_of_le hgl hW.size
          have lx2 : w.heap.size < W.heap.size := Nat.lt_of_lt_of_le lx hW.size
          have HLW := Lib.hid (show LW w w.heap.size B (.slice (some ⟨g, 0, none⟩) l.length c) (kk, n, gn) (midC kk now l (k + 1)) W from ⟨by rw [HC.out]; exact own_kept HOW.out hW, HBX.out.kept hW, gtrans HGR.out (gbelow hW)⟩)
          clear hW
          go_wp2_with fail
          generalize W = W1 at *
          refine wp_region_below (by kernel_rfl) (by kernel_rfl) ?_
          iterate 8 (refine wpQuiet_step (fun K hK => ?_); go_simp; first | (apply Exists.intro; refine ⟨fun W hW => ?_, hK _ ?_⟩; (first | rfl | (have f0 := (hW.cell (p := ⟨g, k * 4, none⟩) gl2).trans v0; have f1 := (hW.cell (p := ⟨w.heap.size, 0, none⟩) lx2).trans v1; go_simp; rfl)); clear hK K) | (refine hK _ ?_; clear hK K))
          refine wpQuiet_nil ?_
          intro W hW
          have HLW2 := Lib.hid (show LW w w.heap.size B (.slice (some ⟨g, 0, none⟩) l.length c) (kk, n, gn) (midC kk now l (k + 1)) _ from ⟨own_kept HLW.out.1 hW, HLW.out.2.1.kept hW, gtrans HLW.out.2.2 (gbelow hW)⟩)
          go_wp2
          go_roundw
          case rel => exact ⟨k + 1, by omega, by go_num, by rw [HAT.out]; simp, HLW2.out⟩
          case measure => simp [intOf]; omega
    · obtain rfl : k = l.length := by omega
      rw [List.take_length] at *
      rw [midC_all] at hown
      have hcl := closeL_len kk now l
      have hat := atOf_le kk l
      have HWS := Lib.hid (show writeS now l (kk, n, gn) = insV (closeL kk now l) (atOf kk l) (kk, n, gn) now from rfl)
      have h0 : wr.cell? ⟨w.heap.size, 0, none⟩ = some (.string kk) := hbx.cell 0
      have h1 : wr.cell? ⟨w.heap.size, 1, none⟩ = some (.int .i64 n) := hbx.cell 1
      have h2 : wr.cell? ⟨w.heap.size, 2, none⟩ = some (.bool gn) := hbx.cell 2
      simp only at hbx
      generalize closeL kk now l = C at *
      generalize atOf kk l = p at *
      have HOW := Lib.hid hown
      have HBX := Lib.hid hbx
      have HGR := Lib.hid hgr
      clear hown hbx hgr H0
      cases gn
      · rcases HOW.out.2 with ⟨hA, hl0⟩ | ⟨g, cap, cur, hA, hg1, hg2, hg3, hg4, hg5, hg6⟩
        · have hl : l = [] := List.eq_nil_of_length_eq_zero (by omega)
          subst hl
          obtain rfl : p = 0 := by simpa using hat
          injection hA with e1 e2 e3
          subst e1; subst e3
          clear e2
          obtain rfl : C = [] := List.eq_nil_of_length_eq_zero hl0
          simp only [List.length_nil] at *
          have HD0 := Lib.hid (Blk.new wr 88 #[])
          have hbe := (Below.refl wr.heap.size wr).alloc (Nat.le_refl _) (.cells #[] 88)
          have HO0 := Lib.hid (show (wr.alloc (.cells #[] 88)).ownsRow wr.heap.size 88 4 (.slice (some ⟨wr.heap.size, 0, none⟩) 0 0) 0 [] from own_of_blk HD0.out (Nat.le_refl _) (Nat.zero_le _) rfl rfl)
          have hcd : 0 = (([] : List Ver).drop 0).length := by first | rfl | (rw [List.length_drop]; omega)
          have HCD := Lib.hid hcd
          have HSD := Lib.hid (show Sl encVer 4 (wr.alloc (.cells #[] 88)) none (([] : List Ver).drop 0) from Sl.nil_of rfl)
          have HBE := Lib.hid hbe
          have hcd2 : (([] : List Ver).drop 0).length ≤ 1000 := by rw [List.length_drop]; omega
          have hP : 0 ≤ ([] : List Ver).length := by omega
          have HP := Lib.hid hP
          have H63 := Lib.hid (show 0 + (([] : List Ver).drop 0).length ≤ maxLen by unfold maxLen; omega)
          have HBY := Lib.hid (show (0 + (([] : List Ver).drop 0).length) * 40 ≤ 140737488355328 by omega)
          have HBS := Lib.hid (show wr.heap.size ≤ (wr.alloc (.cells #[] 88)).heap.size by simp)
          have HP1 := Lib.hid (show 0 ≤ 1000 by omega)
          have HCD2 := Lib.hid hcd2
          have a1 : True := trivial
          clear hbe hcd hcd2 hP
          try clear hcl
          go_wp2_with (at_builtin; refine wpList_append_slM (enc := encVer) rfl (.tmp 50) (.tmp 53) 30 rfl wr.heap.size 88 i0 _ 4 40 Try.underlying30 HI.out.1 HI.out.2.1 HI.out.2.2.1 HI.out.2.2.2 rfl (by decide) (.slice (some ⟨wr.heap.size, 0, none⟩) 0 0) 0 [] rfl HO0.out encVer_len none (([] : List Ver).drop 0) 0 0 HCD.out (by first | rfl | simp [Act.eval, List.length_drop]) HSD.out (encVer_one _) H63.out HBY.out HBS.out ?_; intro vt w1 hownt hgrt _; have hbt := below_own HBE.out hgrt HBS.out (fun k hk => by simp [Value.ownBlock] at hk; omega); have ht : OwnV w1 wr.heap.size vt (([] : List Ver).drop 0) := ownV_of hownt; clear hownt hgrt; obtain ⟨At, ct, rfl, _, _, hSt⟩ := ht.sl; have HT := Lib.hid ht; have HBT := Lib.hid hbt; have HHX := Lib.hid (HBX.out.kept hbt); clear hSt ht hbt; have s0 : w1.cell? ⟨w.heap.size, 0, none⟩ = some (.string kk) := HHX.out.cell 0; have s1 : w1.cell? ⟨w.heap.size, 1, none⟩ = some (.int .i64 n) := HHX.out.cell 1)
          have hb2 : Below w1.heap.size w1 (w1.alloc (.cells #[.string kk, .int .i64 n, .int .i64 now, .int .i64 0] 88)).drew := ((Below.refl w1.heap.size w1).alloc (Nat.le_refl _) _).drew
          have HB2 := Lib.hid hb2
          have HS1 := Lib.hid HBT.out.size
          have HOW1 := Lib.hid (show OwnV w1 B (.slice none 0 0) ([] : List Ver) from own_kept HOW.out HBT.out)
          have HOW2 := Lib.hid (show OwnV ((w1.alloc (.cells #[.string kk, .int .i64 n, .int .i64 now, .int .i64 0] 88)).drew) B (.slice none 0 0) ([] : List Ver) from own_kept HOW1.out hb2)
          have HPRE := Lib.hid (own_pre HOW2.out HP.out)
          have HXS := Lib.hid (show Sl encVer 4 ((w1.alloc (.cells #[.string kk, .int .i64 n, .int .i64 now, .int .i64 0] 88)).drew) (some ⟨w1.heap.size, 0, none⟩) [(kk, n, now, 0)] from sl_one (Blk.new w1 88 _).drew)
          have HTT := Lib.hid (show OwnV ((w1.alloc (.cells #[.string kk, .int .i64 n, .int .i64 now, .int .i64 0] 88)).drew) wr.heap.size (.slice At (([] : List Ver).drop 0).length ct) (([] : List Ver).drop 0) from own_kept HT.out hb2)
          have G63 := Lib.hid (show 0 + [((kk, n, now, 0) : Ver)].length ≤ maxLen by have := HP1.out; unfold maxLen; simp <;> omega)
          have GBY := Lib.hid (show (0 + [((kk, n, now, 0) : Ver)].length) * 40 ≤ 140737488355328 by have := HP1.out; simp <;> omega)
          have GBS := Lib.hid (show B ≤ ((w1.alloc (.cells #[.string kk, .int .i64 n, .int .i64 now, .int .i64 0] 88)).drew).heap.size by have := HS1.out; have := HGR.out.size; simp; omega)
          have HLT := Lib.hid (show ∀ j, (Value.slice none 0 0).ownBlock = some j → j < wr.heap.size from fun j h => (HOW.out.lt j h).2)
          clear hb2
          go_region_law (first
            | (refine step_append_slB (enc := encVer) rfl (.tmp 65) (.tmp 66) 30 rfl B 88 i0 (.agg #[.string ⟨#[]⟩, .int .i64 0, .int .i64 0, .int .i64 0]) 4 40 Try.underlying30 HI.out.1 HI.out.2.1 HI.out.2.2.1 HI.out.2.2.2 rfl (by decide) (.slice (some ⟨g2, 0, none⟩) (0 + 1) cap2) (0 + 1) ((([] : List Ver).take 0).flatMap encVer ++ [((kk, n, now, 0) : Ver)].flatMap encVer) (by simp [Act.eval]) HO3.out encVer_len At (([] : List Ver).drop 0) (([] : List Ver).drop 0).length ct rfl (by simp [Act.eval]) HST3.out (encVer_one _) K63.out KBY.out KBS.out ?_; intro v4 w4 hown4 hgr4 hbl4; have HO4 := Lib.hid (own_done HP.out hown4); have HG4 := Lib.hid (grow_two HGR.out (gbelow (HBT.out)) HG3.out hgr4 (fun j h => (HBL3.out j h))); clear hown4 hgr4 hbl4)
            | (refine step_append_slB (enc := encVer) rfl (.tmp 57) (.tmp 64) 30 rfl B 88 i0 (.agg #[.string ⟨#[]⟩, .int .i64 0, .int .i64 0, .int .i64 0]) 4 40 Try.underlying30 HI.out.1 HI.out.2.1 HI.out.2.2.1 HI.out.2.2.2 rfl (by decide) (.slice none 0 0) 0 ((([] : List Ver).take 0).flatMap encVer) (by simp [Act.eval]) HPRE.out encVer_len (some ⟨w1.heap.size, 0, none⟩) [((kk, n, now, 0) : Ver)] 1 1 rfl (by simp [Act.eval]) HXS.out (encVer_one _) G63.out GBY.out GBS.out ?_; intro v3 w3 hown3 hgr3 hbl3; obtain ⟨g2, cap2, rfl, hown3⟩ := own_some hown3; have HO3 := Lib.hid hown3; have HG3 := Lib.hid (grow_at HB2.out HS1.out hgr3); have HBL3 := Lib.hid (block_at HB2.out HS1.out HGR.out hbl3); have HST3 := Lib.hid (tail_at HTT.out hgr3 HLT.out); have K63 := Lib.hid (show 0 + 1 + (([] : List Ver).drop 0).length ≤ maxLen by have := HP1.out; have := HCD2.out; unfold maxLen; omega); have KBY := Lib.hid (show (0 + 1 + (([] : List Ver).drop 0).length) * 40 ≤ 140737488355328 by have := HP1.out; have := HCD2.out; omega); have KBS := Lib.hid (Nat.le_trans GBS.out hgr3.size); clear hown3 hgr3 hbl3))
          all_goals
            go_wp2
            go_ret
            exact ⟨_, rfl, by rw [HWS.out, insV, if_neg (by simp)]; exact HO4.out, HG4.out⟩
        · injection hA with e1 e2 e3
          subst e1; subst e3
          clear hg2 hg3 hg5 hg6 cur e2 hg4
          have hof := HOW.out.2
          clear hof
          by_cases hcp : c = p
          · obtain rfl : p = l.length := by omega
            subst hcp
            have HD0 := Lib.hid (Blk.new wr 88 #[])
            have hbe := (Below.refl wr.heap.size wr).alloc (Nat.le_refl _) (.cells #[] 88)
            have HO0 := Lib.hid (show (wr.alloc (.cells #[] 88)).ownsRow wr.heap.size 88 4 (.slice (some ⟨wr.heap.size, 0, none⟩) 0 0) 0 [] from own_of_blk HD0.out (Nat.le_refl _) (Nat.zero_le _) rfl rfl)
            have hcd : 0 = (C.drop l.length).length := by first | rfl | (rw [List.length_drop]; omega)
            have HCD := Lib.hid hcd
            have HSD := Lib.hid (show Sl encVer 4 (wr.alloc (.cells #[] 88)) (some ⟨g, 0, none⟩) (C.drop l.length) from (Sl.dropz HOW.out hcl).below hbe)
            have HBE := Lib.hid hbe
            have hcd2 : (C.drop l.length).length ≤ 1000 := by rw [List.length_drop]; omega
            have hP : l.length ≤ C.length := by omega
            have HP := Lib.hid hP
            have H63 := Lib.hid (show 0 + (C.drop l.length).length ≤ maxLen by unfold maxLen; omega)
            have HBY := Lib.hid (show (0 + (C.drop l.length).length) * 40 ≤ 140737488355328 by omega)
            have HBS := Lib.hid (show wr.heap.size ≤ (wr.alloc (.cells #[] 88)).heap.size by simp)
            have HP1 := Lib.hid (show l.length ≤ 1000 by omega)
            have HCD2 := Lib.hid hcd2
            have a1 : True := trivial
            clear hbe hcd hcd2 hP
            try clear hcl
            go_wp2_with (at_builtin; refine wpList_append_slM (enc := encVer) rfl (.tmp 50) (.tmp 53) 30 rfl wr.heap.size 88 i0 _ 4 40 Try.underlying30 HI.out.1 HI.out.2.1 HI.out.2.2.1 HI.out.2.2.2 rfl (by decide) (.slice (some ⟨wr.heap.size, 0, none⟩) 0 0) 0 [] rfl HO0.out encVer_len (some ⟨g, 0, none⟩) (C.drop l.length) 0 0 HCD.out (by first | rfl | simp [Act.eval, List.length_drop]) HSD.out (encVer_one _) H63.out HBY.out HBS.out ?_; intro vt w1 hownt hgrt _; have hbt := below_own HBE.out hgrt HBS.out (fun k hk => by simp [Value.ownBlock] at hk; omega); have ht : OwnV w1 wr.heap.size vt (C.drop l.length) := ownV_of hownt; clear hownt hgrt; obtain ⟨At, ct, rfl, _, _, hSt⟩ := ht.sl; have HT := Lib.hid ht; have HBT := Lib.hid hbt; have HHX := Lib.hid (HBX.out.kept hbt); clear hSt ht hbt; have s0 : w1.cell? ⟨w.heap.size, 0, none⟩ = some (.string kk) := HHX.out.cell 0; have s1 : w1.cell? ⟨w.heap.size, 1, none⟩ = some (.int .i64 n) := HHX.out.cell 1)
            have hb2 : Below w1.heap.size w1 (w1.alloc (.cells #[.string kk, .int .i64 n, .int .i64 now, .int .i64 0] 88)).drew := ((Below.refl w1.heap.size w1).alloc (Nat.le_refl _) _).drew
            have HB2 := Lib.hid hb2
            have HS1 := Lib.hid HBT.out.size
            have HOW1 := Lib.hid (show OwnV w1 B (.slice (some ⟨g, 0, none⟩) l.length l.length) C from own_kept HOW.out HBT.out)
            have HOW2 := Lib.hid (show OwnV ((w1.alloc (.cells #[.string kk, .int .i64 n, .int .i64 now, .int .i64 0] 88)).drew) B (.slice (some ⟨g, 0, none⟩) l.length l.length) C from own_kept HOW1.out hb2)
            have HPRE := Lib.hid (own_pre HOW2.out HP.out)
            have HXS := Lib.hid (show Sl encVer 4 ((w1.alloc (.cells #[.string kk, .int .i64 n, .int .i64 now, .int .i64 0] 88)).drew) (some ⟨w1.heap.size, 0, none⟩) [(kk, n, now, 0)] from sl_one (Blk.new w1 88 _).drew)
            have HTT := Lib.hid (show OwnV ((w1.alloc (.cells #[.string kk, .int .i64 n, .int .i64 now, .int .i64 0] 88)).drew) wr.heap.size (.slice At (C.drop l.length).length ct) (C.drop l.length) from own_kept HT.out hb2)
            have G63 := Lib.hid (show l.length + [((kk, n, now, 0) : Ver)].length ≤ maxLen by have := HP1.out; unfold maxLen; simp <;> omega)
            have GBY := Lib.hid (show (l.length + [((kk, n, now, 0) : Ver)].length) * 40 ≤ 140737488355328 by have := HP1.out; simp <;> omega)
            have GBS := Lib.hid (show B ≤ ((w1.alloc (.cells #[.string kk, .int .i64 n, .int .i64 now, .int .i64 0] 88)).drew).heap.size by have := HS1.out; have := HGR.out.size; simp; omega)
            have HLT := Lib.hid (show ∀ j, (Value.slice (some ⟨g, 0, none⟩) l.length l.length).ownBlock = some j → j < wr.heap.size from fun j h => (HOW.out.lt j h).2)
            clear hb2
            go_region_law (first
              | (refine step_append_slB (enc := encVer) rfl (.tmp 65) (.tmp 66) 30 rfl B 88 i0 (.agg #[.string ⟨#[]⟩, .int .i64 0, .int .i64 0, .int .i64 0]) 4 40 Try.underlying30 HI.out.1 HI.out.2.1 HI.out.2.2.1 HI.out.2.2.2 rfl (by decide) (.slice (some ⟨g2, 0, none⟩) (l.length + 1) cap2) (l.length + 1) ((C.take l.length).flatMap encVer ++ [((kk, n, now, 0) : Ver)].flatMap encVer) (by simp [Act.eval]) HO3.out encVer_len At (C.drop l.length) (C.drop l.length).length ct rfl (by simp [Act.eval]) HST3.out (encVer_one _) K63.out KBY.out KBS.out ?_; intro v4 w4 hown4 hgr4 hbl4; have HO4 := Lib.hid (own_done HP.out hown4); have HG4 := Lib.hid (grow_two HGR.out (gbelow (HBT.out)) HG3.out hgr4 (fun j h => (HBL3.out j h))); clear hown4 hgr4 hbl4)
              | (refine step_append_slB (enc := encVer) rfl (.tmp 57) (.tmp 64) 30 rfl B 88 i0 (.agg #[.string ⟨#[]⟩, .int .i64 0, .int .i64 0, .int .i64 0]) 4 40 Try.underlying30 HI.out.1 HI.out.2.1 HI.out.2.2.1 HI.out.2.2.2 rfl (by decide) (.slice (some ⟨g, 0, none⟩) l.length l.length) l.length ((C.take l.length).flatMap encVer) (by simp [Act.eval]) HPRE.out encVer_len (some ⟨w1.heap.size, 0, none⟩) [((kk, n, now, 0) : Ver)] 1 1 rfl (by simp [Act.eval]) HXS.out (encVer_one _) G63.out GBY.out GBS.out ?_; intro v3 w3 hown3 hgr3 hbl3; obtain ⟨g2, cap2, rfl, hown3⟩ := own_some hown3; have HO3 := Lib.hid hown3; have HG3 := Lib.hid (grow_at HB2.out HS1.out hgr3); have HBL3 := Lib.hid (block_at HB2.out HS1.out HGR.out hbl3); have HST3 := Lib.hid (tail_at HTT.out hgr3 HLT.out); have K63 := Lib.hid (show l.length + 1 + (C.drop l.length).length ≤ maxLen by have := HP1.out; have := HCD2.out; unfold maxLen; omega); have KBY := Lib.hid (show (l.length + 1 + (C.drop l.length).length) * 40 ≤ 140737488355328 by have := HP1.out; have := HCD2.out; omega); have KBS := Lib.hid (Nat.le_trans GBS.out hgr3.size); clear hown3 hgr3 hbl3))
            all_goals
              go_wp2
              go_ret
              exact ⟨_, rfl, by rw [HWS.out, insV, if_neg (by simp)]; exact HO4.out, HG4.out⟩
          · have hcp2 : ¬ p = c := fun e => hcp e.symm
            have HD0 := Lib.hid (Blk.new wr 88 #[])
            have hbe := (Below.refl wr.heap.size wr).alloc (Nat.le_refl _) (.cells #[] 88)
            have HO0 := Lib.hid (show (wr.alloc (.cells #[] 88)).ownsRow wr.heap.size 88 4 (.slice (some ⟨wr.heap.size, 0, none⟩) 0 0) 0 [] from own_of_blk HD0.out (Nat.le_refl _) (Nat.zero_le _) rfl rfl)
            have hcd : (l.length - p) = (C.drop p).length := by first | rfl | (rw [List.length_drop]; omega)
            have HCD := Lib.hid hcd
            have HSD := Lib.hid (show Sl encVer 4 (wr.alloc (.cells #[] 88)) (some ⟨g, p * 4, none⟩) (C.drop p) from (Sl.drop4s HOW.out p).below hbe)
            have HBE := Lib.hid hbe
            have hcd2 : (C.drop p).length ≤ 1000 := by rw [List.length_drop]; omega
            have hP : p ≤ C.length := by omega
            have HP := Lib.hid hP
            have H63 := Lib.hid (show 0 + (C.drop p).length ≤ maxLen by unfold maxLen; omega)
            have HBY := Lib.hid (show (0 + (C.drop p).length) * 40 ≤ 140737488355328 by omega)
            have HBS := Lib.hid (show wr.heap.size ≤ (wr.alloc (.cells #[] 88)).heap.size by simp)
            have HP1 := Lib.hid (show p ≤ 1000 by omega)
            have HCD2 := Lib.hid hcd2
            have a1 : (p : Int) ≤ (l.length : Int) := by omega
            have a2 : p ≤ c := by omega
            have a3 : (l.length : Int) ≤ (c : Int) := by omega
            clear hbe hcd hcd2 hP
            try clear hcl
            go_wp2_with (at_builtin; refine wpList_append_slM (enc := encVer) rfl (.tmp 50) (.tmp 53) 30 rfl wr.heap.size 88 i0 _ 4 40 Try.underlying30 HI.out.1 HI.out.2.1 HI.out.2.2.1 HI.out.2.2.2 rfl (by decide) (.slice (some ⟨wr.heap.size, 0, none⟩) 0 0) 0 [] rfl HO0.out encVer_len (some ⟨g, p * 4, none⟩) (C.drop p) (l.length - p) (c - p) HCD.out (by first | rfl | simp [Act.eval, hcp, hcp2]) HSD.out (encVer_one _) H63.out HBY.out HBS.out ?_; intro vt w1 hownt hgrt _; have hbt := below_own HBE.out hgrt HBS.out (fun k hk => by simp [Value.ownBlock] at hk; omega); have ht : OwnV w1 wr.heap.size vt (C.drop p) := ownV_of hownt; clear hownt hgrt; obtain ⟨At, ct, rfl, _, _, hSt⟩ := ht.sl; have HT := Lib.hid ht; have HBT := Lib.hid hbt; have HHX := Lib.hid (HBX.out.kept hbt); clear hSt ht hbt; have s0 : w1.cell? ⟨w.heap.size, 0, none⟩ = some (.string kk) := HHX.out.cell 0; have s1 : w1.cell? ⟨w.heap.size, 1, none⟩ = some (.int .i64 n) := HHX.out.cell 1)
            have hb2 : Below w1.heap.size w1 (w1.alloc (.cells #[.string kk, .int .i64 n, .int .i64 now, .int .i64 0] 88)).drew := ((Below.refl w1.heap.size w1).alloc (Nat.le_refl _) _).drew
            have HB2 := Lib.hid hb2
            have HS1 := Lib.hid HBT.out.size
            have HOW1 := Lib.hid (show OwnV w1 B (.slice (some ⟨g, 0, none⟩) l.length c) C from own_kept HOW.out HBT.out)
            have HOW2 := Lib.hid (show OwnV ((w1.alloc (.cells #[.string kk, .int .i64 n, .int .i64 now, .int .i64 0] 88)).drew) B (.slice (some ⟨g, 0, none⟩) l.length c) C from own_kept HOW1.out hb2)
            have HPRE := Lib.hid (own_pre HOW2.out HP.out)
            have HXS := Lib.hid (show Sl encVer 4 ((w1.alloc (.cells #[.string kk, .int .i64 n, .int .i64 now, .int .i64 0] 88)).drew) (some ⟨w1.heap.size, 0, none⟩) [(kk, n, now, 0)] from sl_one (Blk.new w1 88 _).drew)
            have HTT := Lib.hid (show OwnV ((w1.alloc (.cells #[.string kk, .int .i64 n, .int .i64 now, .int .i64 0] 88)).drew) wr.heap.size (.slice At (C.drop p).length ct) (C.drop p) from own_kept HT.out hb2)
            have G63 := Lib.hid (show p + [((kk, n, now, 0) : Ver)].length ≤ maxLen by have := HP1.out; unfold maxLen; simp <;> omega)
            have GBY := Lib.hid (show (p + [((kk, n, now, 0) : Ver)].length) * 40 ≤ 140737488355328 by have := HP1.out; simp <;> omega)
            have GBS := Lib.hid (show B ≤ ((w1.alloc (.cells #[.string kk, .int .i64 n, .int .i64 now, .int .i64 0] 88)).drew).heap.size by have := HS1.out; have := HGR.out.size; simp; omega)
            have HLT := Lib.hid (show ∀ j, (Value.slice (some ⟨g, 0, none⟩) l.length c).ownBlock = some j → j < wr.heap.size from fun j h => (HOW.out.lt j h).2)
            clear hb2
            go_region_law (first
              | (refine step_append_slB (enc := encVer) rfl (.tmp 65) (.tmp 66) 30 rfl B 88 i0 (.agg #[.string ⟨#[]⟩, .int .i64 0, .int .i64 0, .int .i64 0]) 4 40 Try.underlying30 HI.out.1 HI.out.2.1 HI.out.2.2.1 HI.out.2.2.2 rfl (by decide) (.slice (some ⟨g2, 0, none⟩) (p + 1) cap2) (p + 1) ((C.take p).flatMap encVer ++ [((kk, n, now, 0) : Ver)].flatMap encVer) (by simp [Act.eval]) HO3.out encVer_len At (C.drop p) (C.drop p).length ct rfl (by simp [Act.eval]) HST3.out (encVer_one _) K63.out KBY.out KBS.out ?_; intro v4 w4 hown4 hgr4 hbl4; have HO4 := Lib.hid (own_done HP.out hown4); have HG4 := Lib.hid (grow_two HGR.out (gbelow (HBT.out)) HG3.out hgr4 (fun j h => (HBL3.out j h))); clear hown4 hgr4 hbl4)
              | (refine step_append_slB (enc := encVer) rfl (.tmp 57) (.tmp 64) 30 rfl B 88 i0 (.agg #[.string ⟨#[]⟩, .int .i64 0, .int .i64 0, .int .i64 0]) 4 40 Try.underlying30 HI.out.1 HI.out.2.1 HI.out.2.2.1 HI.out.2.2.2 rfl (by decide) (.slice (some ⟨g, 0, none⟩) p c) p ((C.take p).flatMap encVer) (by simp [Act.eval]) HPRE.out encVer_len (some ⟨w1.heap.size, 0, none⟩) [((kk, n, now, 0) : Ver)] 1 1 rfl (by simp [Act.eval]) HXS.out (encVer_one _) G63.out GBY.out GBS.out ?_; intro v3 w3 hown3 hgr3 hbl3; obtain ⟨g2, cap2, rfl, hown3⟩ := own_some hown3; have HO3 := Lib.hid hown3; have HG3 := Lib.hid (grow_at HB2.out HS1.out hgr3); have HBL3 := Lib.hid (block_at HB2.out HS1.out HGR.out hbl3); have HST3 := Lib.hid (tail_at HTT.out hgr3 HLT.out); have K63 := Lib.hid (show p + 1 + (C.drop p).length ≤ maxLen by have := HP1.out; have := HCD2.out; unfold maxLen; omega); have KBY := Lib.hid (show (p + 1 + (C.drop p).length) * 40 ≤ 140737488355328 by have := HP1.out; have := HCD2.out; omega); have KBS := Lib.hid (Nat.le_trans GBS.out hgr3.size); clear hown3 hgr3 hbl3))
            all_goals
              go_wp2
              go_ret
              exact ⟨_, rfl, by rw [HWS.out, insV, if_neg (by simp)]; exact HO4.out, HG4.out⟩
      · go_wp2
        go_ret
        exact ⟨_, rfl, by rw [HWS.out, insV, if_pos (by simp)]; exact HOW.out, HGR.out⟩
end Go.Proofs.Ytpjkcmmmpgncmaa
