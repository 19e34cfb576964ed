import Derived.Test.YtpjkcmmmpgncmaaM01
import Derived.Laws.AppendOwnNone
import Derived.Lib.Bytealg
/- What a letter is, as data. -/
namespace Go.Proofs.Ytpjkcmmmpgncmaa
open Go.RowKit
abbrev Let : Type := ByteArray × ByteArray
def encLet (x : Let) : List Value := [.string x.1, .string x.2]
theorem encLet_len (x : Let) : (encLet x).length = 2 := rfl
end Go.Proofs.Ytpjkcmmmpgncmaa
/- append(v, u...) where v is a row of the call's own and u a slice that reads as a list; in a plain region, guarded or not, and as a step of a region that draws its order. -/
namespace Go.Proofs.Ytpjkcmmmpgncmaa
open Go.RowKit
theorem append_nil {P : Program} {w : World} (base : Nat) (t ty e : TypeId) (i : TypeInfo) (size : Nat) (ht : P.underlying t = some (.slice e)) (hi : P.info? e = some i) (v : Value) (n : Nat) (xs : List Value)
    (hown : w.ownsRow base e size v n xs) (c : Nat) : (Builtin.append_ #[t, t] ty #[v, .slice none 0 c]).run P w = .ok v w := by
  rcases hown.2 with ⟨rfl, rfl⟩ | ⟨g, cap, cur, rfl, _, _, hnc, _⟩
  · simp [Builtin.append_, run_underlying ht, sizeOf, typeInfo, hi, Builtin.lenOf, Builtin.firstCells]
  · simp [Builtin.append_, run_underlying ht, sizeOf, typeInfo, hi, Builtin.lenOf, Builtin.firstCells, hnc, storeCells]
theorem Sl.cells {α : Type} {enc : α → List Value} {k : Nat} {w : World} {ad : Addr} {l : List α} (henc : ∀ x, (enc x).length = k) (h : Sl enc k w (some ad) l) : ∀ j u, (l.flatMap enc)[j]? = some u → w.cell? (ad.add j) = some u := by
  intro j u hj
  have hjl : j < (l.flatMap enc).length := (List.getElem?_eq_some_iff.1 hj).1
  rw [flat_len henc] at hjl
  have hk : 0 < k := by rcases Nat.eq_zero_or_pos k with h0 | h0; subst h0; omega; exact h0
  have hl : 0 < l.length := by rcases Nat.eq_zero_or_pos l.length with h0 | h0; rw [h0] at hjl; omega; exact h0
  obtain ⟨b, o, he, _, hc⟩ := h hl
  injection he with he
  subst he
  have hi : j / k < l.length := Nat.div_lt_of_lt_mul (by rw [Nat.mul_comm]; exact hjl)
  have hr : j % k < k := Nat.mod_lt _ hk
  have hx := List.getElem?_eq_getElem hi
  have e1 : j / k * k + j % k = j := by rw [Nat.mul_comm]; exact Nat.div_add_mod j k
  have := hc (j / k) (j % k) _ hx hr
  rw [← flat_get henc l (j / k) (j % k) _ hx hr, e1, hj] at this
  rw [Go.WideShapes.add_plain, ← this]
  congr 1
  rw [Nat.add_assoc, e1]
theorem wp_append_sl {α : Type} {enc : α → List Value} {P : Program} {w : World} {o : Oper} {a : Act} {K : Act → World → Prop} {Q : Exit → Act → World → Prop} (s x : Operand) (t : TypeId)
    (ho : o.op = .call { callee := .builtin .append, args := #[s, x], argTypes := #[t, t] })
    (base : Nat) (e : TypeId) (i : TypeInfo) (z : Value) (size bytes : Nat) (ht : P.underlying t = some (.slice e)) (hi : P.info? e = some i) (hz : i.zero = some z)
    (hsize : i.size = size) (hby : i.bytes = bytes) (hzs : z.cells.size = size) (hsz : 0 < size)
    (v : Value) (n : Nat) (xs : List Value) (hs : a.eval s = v) (hown : w.ownsRow base e size v n xs)
    (henc : ∀ x, (enc x).length = size) (A : Option Addr) (l : List α) (c : Nat) (hx : a.eval x = .slice A l.length c) (hS : Sl enc size w A l) (h1 : ∀ u ∈ l.flatMap enc, u.oneCell' = true)
    (h63 : n + l.length ≤ maxLen) (hbytes : (n + l.length) * bytes ≤ 140737488355328) (hbase : base ≤ w.heap.size)
    (h : ∀ v' w', w'.ownsRow base e size v' (n + l.length) (xs ++ l.flatMap enc) → w.grownBy w' v.ownBlock → K (a.put o.dst v') w') : o.wp P a w K Q := by
  rcases A with _ | ad
  · have hl : l = [] := by
      rcases Nat.eq_zero_or_pos l.length with h0 | h0
      · exact List.eq_nil_of_length_eq_zero h0
      · obtain ⟨b, o, he, _⟩ := hS h0; cases he
    subst hl
    have hrun := append_nil (P := P) (w := w) base t o.type e i size ht hi v n xs hown c
    unfold Oper.wp
    simp [execOp, ho, resolve, invoke, builtin, hs, hx, hrun, Result.andThen]
    exact h v w (by simpa using hown) (World.grownBy.refl w _)
  · exact wp_append_own w s x t ho base e i z size bytes ht hi hz hsize hby hzs hsz v n xs hs hown ad l.length c (l.flatMap enc) hx (flat_len henc l) (Sl.cells henc hS) h1 h63 hbytes hbase (fun v' w' h2 h3 _ => h v' w' h2 h3)
theorem step_append_sl {α : Type} {enc : α → List Value} {P : Program} {w : World} {ops : Array Oper} {o : Oper} {a : Act} {K : Act → World → Prop} {Q : Exit → Act → World → Prop} {E : Prop} (hgd : o.guard = none) (s x : Operand) (t : TypeId)
    (ho : o.op = .call { callee := .builtin .append, args := #[s, x], argTypes := #[t, t] })
    (base : Nat) (e : TypeId) (i : TypeInfo) (z : Value) (size bytes : Nat) (ht : P.underlying t = some (.slice e)) (hi : P.info? e = some i) (hz : i.zero = some z)
    (hsize : i.size = size) (hby : i.bytes = bytes) (hzs : z.cells.size = size) (hsz : 0 < size)
    (v : Value) (n : Nat) (xs : List Value) (hs : a.eval s = v) (hown : w.ownsRow base e size v n xs)
    (henc : ∀ x, (enc x).length = size) (A : Option Addr) (l : List α) (c : Nat) (hx : a.eval x = .slice A l.length c) (hS : Sl enc size w A l) (h1 : ∀ u ∈ l.flatMap enc, u.oneCell' = true)
    (h63 : n + l.length ≤ maxLen) (hbytes : (n + l.length) * bytes ≤ 140737488355328) (hbase : base ≤ w.heap.size)
    (h : ∀ v' w', w'.ownsRow base e size v' (n + l.length) (xs ++ l.flatMap enc) → w.grownBy w' v.ownBlock → K (a.put o.dst v') w') :
    if Region.wanted o (yielded ops a.tmps) = true then Oper.wp P o a w K Q else E := by
  rw [if_pos (by simp [Region.wanted, hgd])]
  exact wp_append_sl s x t ho base e i z size bytes ht hi hz hsize hby hzs hsz v n xs hs hown henc A l c hx hS h1 h63 hbytes hbase h
theorem wpList_append_sl {α : Type} {enc : α → List Value} {P : Program} {w : World} {ops : Array Oper} {rest : List Oper} {o : Oper} {a : Act} {Q : Exit → Act → World → Prop} (hw : Region.wanted o (yielded ops a.tmps) = true) (s x : Operand) (t : TypeId)
    (ho : o.op = .call { callee := .builtin .append, args := #[s, x], argTypes := #[t, t] })
    (base : Nat) (e : TypeId) (i : TypeInfo) (z : Value) (size bytes : Nat) (ht : P.underlying t = some (.slice e)) (hi : P.info? e = some i) (hz : i.zero = some z)
    (hsize : i.size = size) (hby : i.bytes = bytes) (hzs : z.cells.size = size) (hsz : 0 < size)
    (v : Value) (n : Nat) (xs : List Value) (hs : a.eval s = v) (hown : w.ownsRow base e size v n xs)
    (henc : ∀ x, (enc x).length = size) (A : Option Addr) (l : List α) (c : Nat) (hx : a.eval x = .slice A l.length c) (hS : Sl enc size w A l) (h1 : ∀ u ∈ l.flatMap enc, u.oneCell' = true)
    (h63 : n + l.length ≤ maxLen) (hbytes : (n + l.length) * bytes ≤ 140737488355328) (hbase : base ≤ w.heap.size)
    (h : ∀ v' w', w'.ownsRow base e size v' (n + l.length) (xs ++ l.flatMap enc) → w.grownBy w' v.ownBlock → wpList P ops Q rest (a.put o.dst v') w') : wpList P ops Q (o :: rest) a w :=
  wpList_step fun K hK => by
    rw [if_pos hw]
    exact wp_append_sl s x t ho base e i z size bytes ht hi hz hsize hby hzs hsz v n xs hs hown henc A l c hx hS h1 h63 hbytes hbase (fun v' w' h2 h3 => hK _ _ (h v' w' h2 h3))
end Go.Proofs.Ytpjkcmmmpgncmaa
/- What a write is, as data; rows of writes, and rows of such rows. -/
namespace Go.Proofs.Ytpjkcmmmpgncmaa
open Go.RowKit
abbrev Wri : Type := ByteArray × Int × Bool
def encWri (x : Wri) : List Value := [.string x.1, .int .i64 x.2.1, .bool x.2.2]
theorem encWri_len (x : Wri) : (encWri x).length = 3 := rfl
def FitsW (l : List Wri) : Prop := l.length ≤ maxLen ∧ ∀ x ∈ l, x.1.size ≤ maxLen
/-- a row of a row: where it lies, its room, what it holds -/
abbrev Wrow : Type := Option Addr × Nat × List Wri
def encWrow (r : Wrow) : List Value := [.slice r.1 r.2.2.length r.2.1]
def cont (rs : List Wrow) : List (List Wri) := rs.map (fun r => r.2.2)
/-- the rows rs lie at A in w -/
def Sl2 (w : World) (A : Option Addr) (rs : List Wrow) : Prop := Sl encWrow 1 w A rs ∧ ∀ r ∈ rs, Sl encWri 3 w r.1 r.2.2
theorem Sl2.below {w w' : World} {A : Option Addr} {rs : List Wrow} (h : Sl2 w A rs) (hb : Below w.heap.size w w') : Sl2 w' A rs := ⟨h.1.below hb, fun r hr => (h.2 r hr).below hb⟩
theorem Sl2.nil (w : World) (A : Option Addr) : Sl2 w A [] := ⟨Sl.nil _ _ _ _, fun r hr => absurd hr (by simp)⟩
theorem Sl2.at_ {w : World} {A : Option Addr} {rs : List Wrow} (h : Sl2 w A rs) {i : Nat} (hi : i < rs.length) :
    ∃ b o, A = some ⟨b, o, none⟩ ∧ b < w.heap.size ∧ w.cell? ⟨b, o + i, none⟩ = some (.slice rs[i].1 rs[i].2.2.length rs[i].2.1) ∧ Sl encWri 3 w rs[i].1 rs[i].2.2 := by
  obtain ⟨b, o, e, hb, hc⟩ := h.1.at1 (f := fun r : Wrow => .slice r.1 r.2.2.length r.2.1) hi
  exact ⟨b, o, e, hb, hc, h.2 _ (List.getElem_mem _)⟩
end Go.Proofs.Ytpjkcmmmpgncmaa
/- Plain words: a text cut at a byte: the pieces; a text of two pieces is one that is cut once. -/
namespace Go.Proofs.Ytpjkcmmmpgncmaa
open Go.RowKit
theorem snoc_rec {α : Type} {P : List α → Prop} (h0 : P []) (h1 : ∀ l x, P l → P (l ++ [x])) (l : List α) : P l := by
  have : ∀ r : List α, P r.reverse := fun r => by
    induction r with
    | nil => exact h0
    | cons a r ih => rw [List.reverse_cons]; exact h1 _ _ ih
  rw [← List.reverse_reverse l]; exact this _
/-- what is cut so far: the pieces that are over, and the one that has begun -/
def cutSt (c : UInt8) (l : List UInt8) : List (List UInt8) × List UInt8 := l.foldl (fun p x => if x = c then (p.1 ++ [p.2], []) else (p.1, p.2 ++ [x])) ([], [])
def pieces (c : UInt8) (l : List UInt8) : List (List UInt8) := (cutSt c l).1 ++ [(cutSt c l).2]
theorem cutSt_snoc (c : UInt8) (l : List UInt8) (x : UInt8) : cutSt c (l ++ [x]) = if x = c then ((cutSt c l).1 ++ [(cutSt c l).2], []) else ((cutSt c l).1, (cutSt c l).2 ++ [x]) := by
  unfold cutSt; rw [List.foldl_append]; rfl
theorem cutSt_take (c : UInt8) (l : List UInt8) (k : Nat) (h : k < l.length) : cutSt c (l.take (k+1)) = if l[k] = c then ((cutSt c (l.take k)).1 ++ [(cutSt c (l.take k)).2], []) else ((cutSt c (l.take k)).1, (cutSt c (l.take k)).2 ++ [l[k]]) := by
  rw [List.take_succ_eq_append_getElem h, cutSt_snoc]
/-- the piece that has begun is the text's end -/
theorem cutSt_tail (c : UInt8) (l : List UInt8) : (cutSt c l).2.length ≤ l.length ∧ (cutSt c l).2 = l.drop (l.length - (cutSt c l).2.length) := by
  induction l using snoc_rec with
  | h0 => exact ⟨Nat.le_refl _, rfl⟩
  | h1 l x ih =>
    rw [cutSt_snoc]
    by_cases h : x = c
    · rw [if_pos h]; simp
    · rw [if_neg h]
      obtain ⟨h1, h2⟩ := ih
      refine ⟨by simp; omega, ?_⟩
      simp only [List.length_append, List.length_cons, List.length_nil]
      rw [show l.length + (0 + 1) - ((cutSt c l).2.length + (0 + 1)) = l.length - (cutSt c l).2.length by omega, List.drop_append_of_le_length (by omega), ← h2]
end Go.Proofs.Ytpjkcmmmpgncmaa
