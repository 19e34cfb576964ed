import Derived.Test.YtpjkcmmmpgncmaaM02
import Derived.Test.YtpjkcmmmpgncmaaRows
import Derived.BigGuardPart
import Derived.Laws.AppendOwnNone
/- What a write is, as data; rows of writes, and rows of such rows. -/
namespace Go.Proofs.Ytpjkcmmmpgncmaa
open Go.RowKit
abbrev Wri : Type := ByteArray × Int × Bool
def encWri (x : Wri) : List Value := [.string x.1, .int .i64 x.2.1, .bool x.2.2]
theorem encWri_len (x : Wri) : (encWri x).length = 3 := rfl
def FitsW (l : List Wri) : Prop := l.length ≤ maxLen ∧ ∀ x ∈ l, x.1.size ≤ maxLen
/-- a row of a row: where it lies, its room, what it holds -/
abbrev Wrow : Type := Option Addr × Nat × List Wri
def encWrow (r : Wrow) : List Value := [.slice r.1 r.2.2.length r.2.1]
def cont (rs : List Wrow) : List (List Wri) := rs.map (fun r => r.2.2)
/-- the rows rs lie at A in w -/
def Sl2 (w : World) (A : Option Addr) (rs : List Wrow) : Prop := Sl encWrow 1 w A rs ∧ ∀ r ∈ rs, Sl encWri 3 w r.1 r.2.2
theorem Sl2.below {w w' : World} {A : Option Addr} {rs : List Wrow} (h : Sl2 w A rs) (hb : Below w.heap.size w w') : Sl2 w' A rs := ⟨h.1.below hb, fun r hr => (h.2 r hr).below hb⟩
theorem Sl2.nil (w : World) (A : Option Addr) : Sl2 w A [] := ⟨Sl.nil _ _ _ _, fun r hr => absurd hr (by simp)⟩
theorem Sl2.at_ {w : World} {A : Option Addr} {rs : List Wrow} (h : Sl2 w A rs) {i : Nat} (hi : i < rs.length) :
    ∃ b o, A = some ⟨b, o, none⟩ ∧ b < w.heap.size ∧ w.cell? ⟨b, o + i, none⟩ = some (.slice rs[i].1 rs[i].2.2.length rs[i].2.1) ∧ Sl encWri 3 w rs[i].1 rs[i].2.2 := by
  obtain ⟨b, o, e, hb, hc⟩ := h.1.at1 (f := fun r : Wrow => .slice r.1 r.2.2.length r.2.1) hi
  exact ⟨b, o, e, hb, hc, h.2 _ (List.getElem_mem _)⟩
/-- the three cells of a block are stored: what is read afterwards, as the walk spells it -/
theorem Blk.three {w : World} {g : Nat} {t : TypeId} {a b c : Value} (h : Blk w g t #[a, b, c]) (u v x : Value) :
    Blk (((w.setCell ⟨g, 0, none⟩ u).setCell ⟨g, 1, none⟩ v).setCell ⟨g, 2, none⟩ x) g t #[u, v, x] := ((h.set_ 0 u).set_ 1 v).set_ 2 x
end Go.Proofs.Ytpjkcmmmpgncmaa
/- The laws' helpers on rows of writes: their size, their copies. -/
namespace Go.Proofs.Ytpjkcmmmpgncmaa
open Go.RowKit
theorem infoWri : (Try.prog.info? 46).map (fun i => (i.zero, i.size, i.bytes)) = some (some (.agg #[.string ⟨#[]⟩, .int .i64 0, .bool false]), 3, 32) := by kernel_rfl
end Go.Proofs.Ytpjkcmmmpgncmaa
/- Those who talk: what they hold, plain; how it lies in memory; their size. -/
namespace Go.Proofs.Ytpjkcmmmpgncmaa
open Go.RowKit
section
variable {α : Type} {enc : α → List Value} {k : Nat} {w w' : World} {A : Option Addr} {l : List α}
theorem Sl.at5 {f g p q r : α → Value} (h : Sl (fun x => [f x, g x, p x, q x, r x]) 5 w A l) {i : Nat} (hi : i < l.length) :
    ∃ b o, A = some ⟨b, o, none⟩ ∧ b < w.heap.size ∧ w.cell? ⟨b, o + i * 5, none⟩ = some (f l[i]) ∧ w.cell? ⟨b, o + i * 5 + 1, none⟩ = some (g l[i]) ∧ w.cell? ⟨b, o + i * 5 + 2, none⟩ = some (p l[i]) ∧
      w.cell? ⟨b, o + i * 5 + 3, none⟩ = some (q l[i]) ∧ w.cell? ⟨b, o + i * 5 + 4, none⟩ = some (r l[i]) := by
  obtain ⟨b, o, rfl, hB, hc⟩ := h (by omega)
  exact ⟨b, o, rfl, hB, hc i 0 _ (List.getElem?_eq_getElem hi) (by omega), hc i 1 _ (List.getElem?_eq_getElem hi) (by omega), hc i 2 _ (List.getElem?_eq_getElem hi) (by omega), hc i 3 _ (List.getElem?_eq_getElem hi) (by omega), hc i 4 _ (List.getElem?_eq_getElem hi) (by omega)⟩
end
/-- what one may ask: its kind, its keys, its number -/
abbrev AskV : Type := Int × ByteArray × ByteArray × Int
/-- what one may ask by a name -/
abbrev Nm : Type := ByteArray × AskV
def encNm (x : Nm) : List Value := [.string x.1, .int .i64 x.2.1, .string x.2.2.1, .string x.2.2.2.1, .int .i64 x.2.2.2.2]
theorem encNm_len (x : Nm) : (encNm x).length = 5 := rfl
end Go.Proofs.Ytpjkcmmmpgncmaa
/- What is a key, what is a number that may be stored: the program's and the reference's tests. -/
namespace Go.Proofs.Ytpjkcmmmpgncmaa
open Go.RowKit
/-- byte i of s, 0 behind its end -/
def kbyt (s : ByteArray) (i : Nat) : Int := ((s.data.getD i 0).toNat : Int)
theorem kbyt_eq (s : ByteArray) (i : Nat) (h : i < s.size) : ((s[i].toNat : Nat) : Int) = kbyt s i := by
  unfold kbyt; rw [Array.getD_eq_getD_getElem?, Array.getElem?_eq_getElem (by simpa using h)]; rfl
def keyB (k : ByteArray) : Bool := decide ((k.size = 1 ∨ k.size = 2) ∧ ∀ i, i < k.size → 97 ≤ kbyt k i ∧ kbyt k i ≤ 122)
def numB (n : Int) : Bool := decide (-999 ≤ n ∧ n ≤ 999)
theorem keyB_bad {k : ByteArray} {j : Nat} (hj : j < k.size) (h : kbyt k j < 97 ∨ 122 < kbyt k j) : keyB k = false := by
  unfold keyB; simp only [decide_eq_false_iff_not]
  intro ⟨_, h2⟩
  have := h2 j hj
  omega
theorem keyB_size {k : ByteArray} (h : keyB k = true) : k.size ≤ 2 := by unfold keyB at h; simp at h; omega
set_option maxHeartbeats 400000 in
theorem specKeyOk_any (k : ByteArray) (w : World) (hs : k.size ≤ maxLen) :
    Calls Try.prog 104 #[.string k] w fun e w' => e = .returned (.bool (keyB k)) ∧ w = w' := by
  unfold maxLen at hs
  go_enter Try.func104, Try.ntmps104
  go_wp2
  go_loop [3] (fun i => ∃ j : Nat, j ≤ k.size ∧ i = .int .i64 j ∧ ∀ m, m < j → 97 ≤ kbyt k m ∧ kbyt k m ≤ 122) (fun i => k.size - (intOf i).toNat)
  case atStart => exact ⟨0, by omega, rfl, fun m h => by omega⟩
  case round =>
    obtain ⟨j, hj, rfl, hall⟩ := hrel
    have HA := Lib.hid hall
    clear hall
    by_cases hlt : j < k.size
    · have hby := kbyt_eq k j hlt
      have HB := Lib.hid hby
      clear hby
      go_wp2
      · have h : ((k[j].toNat : Nat) : Int) < 97 := by assumption
        have hB := HB.out
        go_ret
        exact ⟨ret_bool (keyB_bad hlt (.inl (by omega))).symm, rfl⟩
      · have h : 122 < ((k[j].toNat : Nat) : Int) := by assumption
        have hB := HB.out
        go_ret
        exact ⟨ret_bool (keyB_bad hlt (.inr (by omega))).symm, rfl⟩
      · have h : ¬ ((k[j].toNat : Nat) : Int) < 97 := by assumption
        have h' : ((k[j].toNat : Nat) : Int) ≤ 122 := by assumption
        have hB := HB.out
        go_round
        case rel => exact ⟨j + 1, by omega, by go_num, fun m hm => by
          by_cases hmj : m < j
          · exact HA.out m hmj
          · obtain rfl : m = j := by omega
            omega⟩
        case measure => simp [intOf]; omega
    · obtain rfl : j = k.size := by omega
      by_cases h1 : 1 ≤ k.size <;> by_cases h2 : k.size ≤ 2
      · have d1 : decide (1 ≤ (k.size : Int)) = true := by simp; omega
        have d2 : decide ((k.size : Int) ≤ 2) = true := by simp; omega
        go_wp2
        go_ret
        exact ⟨ret_bool (by unfold keyB; simp only [Bool.true_eq, decide_eq_true_eq]; exact ⟨by omega, HA.out⟩), rfl⟩
      all_goals
        have hk : keyB k = false := by unfold keyB; simp only [decide_eq_false_iff_not]; intro h; omega
        have HK := Lib.hid hk
        clear hk
      · have d1 : decide (1 ≤ (k.size : Int)) = true := by simp; omega
        have d2 : decide ((k.size : Int) ≤ 2) = false := by simp; omega
        go_wp2
        go_ret
        exact ⟨ret_bool HK.out.symm, rfl⟩
      · have d1 : decide (1 ≤ (k.size : Int)) = false := by simp; omega
        go_wp2
        go_ret
        exact ⟨ret_bool HK.out.symm, rfl⟩
      · omega
set_option maxHeartbeats 400000 in
theorem specNumOk_any (n : Int) (w : World) :
    Calls Try.prog 105 #[.int .i64 n] w fun e w' => e = .returned (.bool (numB n)) ∧ w = w' := by
  by_cases a : -999 ≤ n <;> by_cases b : n ≤ 999
  all_goals
    go_enter Try.func105, Try.ntmps105
    go_wp2
    go_ret
    exact ⟨ret_bool (by unfold numB; simp <;> omega), rfl⟩
end Go.Proofs.Ytpjkcmmmpgncmaa
/- append(v, u...) where v is a row of the call's own and u a slice that reads as a list; in a plain region, guarded or not, and as a step of a region that draws its order. -/
namespace Go.Proofs.Ytpjkcmmmpgncmaa
open Go.RowKit
theorem append_nil {P : Program} {w : World} (base : Nat) (t ty e : TypeId) (i : TypeInfo) (size : Nat) (ht : P.underlying t = some (.slice e)) (hi : P.info? e = some i) (v : Value) (n : Nat) (xs : List Value)
    (hown : w.ownsRow base e size v n xs) (c : Nat) : (Builtin.append_ #[t, t] ty #[v, .slice none 0 c]).run P w = .ok v w := by
  rcases hown.2 with ⟨rfl, rfl⟩ | ⟨g, cap, cur, rfl, _, _, hnc, _⟩
  · simp [Builtin.append_, run_underlying ht, sizeOf, typeInfo, hi, Builtin.lenOf, Builtin.firstCells]
  · simp [Builtin.append_, run_underlying ht, sizeOf, typeInfo, hi, Builtin.lenOf, Builtin.firstCells, hnc, storeCells]
theorem Sl.cells {α : Type} {enc : α → List Value} {k : Nat} {w : World} {ad : Addr} {l : List α} (henc : ∀ x, (enc x).length = k) (h : Sl enc k w (some ad) l) : ∀ j u, (l.flatMap enc)[j]? = some u → w.cell? (ad.add j) = some u := by
  intro j u hj
  have hjl : j < (l.flatMap enc).length := (List.getElem?_eq_some_iff.1 hj).1
  rw [flat_len henc] at hjl
  have hk : 0 < k := by rcases Nat.eq_zero_or_pos k with h0 | h0; subst h0; omega; exact h0
  have hl : 0 < l.length := by rcases Nat.eq_zero_or_pos l.length with h0 | h0; rw [h0] at hjl; omega; exact h0
  obtain ⟨b, o, he, _, hc⟩ := h hl
  injection he with he
  subst he
  have hi : j / k < l.length := Nat.div_lt_of_lt_mul (by rw [Nat.mul_comm]; exact hjl)
  have hr : j % k < k := Nat.mod_lt _ hk
  have hx := List.getElem?_eq_getElem hi
  have e1 : j / k * k + j % k = j := by rw [Nat.mul_comm]; exact Nat.div_add_mod j k
  have := hc (j / k) (j % k) _ hx hr
  rw [← flat_get henc l (j / k) (j % k) _ hx hr, e1, hj] at this
  rw [Go.WideShapes.add_plain, ← this]
  congr 1
  rw [Nat.add_assoc, e1]
theorem wp_append_sl {α : Type} {enc : α → List Value} {P : Program} {w : World} {o : Oper} {a : Act} {K : Act → World → Prop} {Q : Exit → Act → World → Prop} (s x : Operand) (t : TypeId)
    (ho : o.op = .call { callee := .builtin .append, args := #[s, x], argTypes := #[t, t] })
    (base : Nat) (e : TypeId) (i : TypeInfo) (z : Value) (size bytes : Nat) (ht : P.underlying t = some (.slice e)) (hi : P.info? e = some i) (hz : i.zero = some z)
    (hsize : i.size = size) (hby : i.bytes = bytes) (hzs : z.cells.size = size) (hsz : 0 < size)
    (v : Value) (n : Nat) (xs : List Value) (hs : a.eval s = v) (hown : w.ownsRow base e size v n xs)
    (henc : ∀ x, (enc x).length = size) (A : Option Addr) (l : List α) (c : Nat) (hx : a.eval x = .slice A l.length c) (hS : Sl enc size w A l) (h1 : ∀ u ∈ l.flatMap enc, u.oneCell' = true)
    (h63 : n + l.length ≤ maxLen) (hbytes : (n + l.length) * bytes ≤ 140737488355328) (hbase : base ≤ w.heap.size)
    (h : ∀ v' w', w'.ownsRow base e size v' (n + l.length) (xs ++ l.flatMap enc) → w.grownBy w' v.ownBlock → K (a.put o.dst v') w') : o.wp P a w K Q := by
  rcases A with _ | ad
  · have hl : l = [] := by
      rcases Nat.eq_zero_or_pos l.length with h0 | h0
      · exact List.eq_nil_of_length_eq_zero h0
      · obtain ⟨b, o, he, _⟩ := hS h0; cases he
    subst hl
    have hrun := append_nil (P := P) (w := w) base t o.type e i size ht hi v n xs hown c
    unfold Oper.wp
    simp [execOp, ho, resolve, invoke, builtin, hs, hx, hrun, Result.andThen]
    exact h v w (by simpa using hown) (World.grownBy.refl w _)
  · exact wp_append_own w s x t ho base e i z size bytes ht hi hz hsize hby hzs hsz v n xs hs hown ad l.length c (l.flatMap enc) hx (flat_len henc l) (Sl.cells henc hS) h1 h63 hbytes hbase (fun v' w' h2 h3 _ => h v' w' h2 h3)
theorem step_append_sl {α : Type} {enc : α → List Value} {P : Program} {w : World} {ops : Array Oper} {o : Oper} {a : Act} {K : Act → World → Prop} {Q : Exit → Act → World → Prop} {E : Prop} (hgd : o.guard = none) (s x : Operand) (t : TypeId)
    (ho : o.op = .call { callee := .builtin .append, args := #[s, x], argTypes := #[t, t] })
    (base : Nat) (e : TypeId) (i : TypeInfo) (z : Value) (size bytes : Nat) (ht : P.underlying t = some (.slice e)) (hi : P.info? e = some i) (hz : i.zero = some z)
    (hsize : i.size = size) (hby : i.bytes = bytes) (hzs : z.cells.size = size) (hsz : 0 < size)
    (v : Value) (n : Nat) (xs : List Value) (hs : a.eval s = v) (hown : w.ownsRow base e size v n xs)
    (henc : ∀ x, (enc x).length = size) (A : Option Addr) (l : List α) (c : Nat) (hx : a.eval x = .slice A l.length c) (hS : Sl enc size w A l) (h1 : ∀ u ∈ l.flatMap enc, u.oneCell' = true)
    (h63 : n + l.length ≤ maxLen) (hbytes : (n + l.length) * bytes ≤ 140737488355328) (hbase : base ≤ w.heap.size)
    (h : ∀ v' w', w'.ownsRow base e size v' (n + l.length) (xs ++ l.flatMap enc) → w.grownBy w' v.ownBlock → K (a.put o.dst v') w') :
    if Region.wanted o (yielded ops a.tmps) = true then Oper.wp P o a w K Q else E := by
  rw [if_pos (by simp [Region.wanted, hgd])]
  exact wp_append_sl s x t ho base e i z size bytes ht hi hz hsize hby hzs hsz v n xs hs hown henc A l c hx hS h1 h63 hbytes hbase h
theorem wpList_append_sl {α : Type} {enc : α → List Value} {P : Program} {w : World} {ops : Array Oper} {rest : List Oper} {o : Oper} {a : Act} {Q : Exit → Act → World → Prop} (hw : Region.wanted o (yielded ops a.tmps) = true) (s x : Operand) (t : TypeId)
    (ho : o.op = .call { callee := .builtin .append, args := #[s, x], argTypes := #[t, t] })
    (base : Nat) (e : TypeId) (i : TypeInfo) (z : Value) (size bytes : Nat) (ht : P.underlying t = some (.slice e)) (hi : P.info? e = some i) (hz : i.zero = some z)
    (hsize : i.size = size) (hby : i.bytes = bytes) (hzs : z.cells.size = size) (hsz : 0 < size)
    (v : Value) (n : Nat) (xs : List Value) (hs : a.eval s = v) (hown : w.ownsRow base e size v n xs)
    (henc : ∀ x, (enc x).length = size) (A : Option Addr) (l : List α) (c : Nat) (hx : a.eval x = .slice A l.length c) (hS : Sl enc size w A l) (h1 : ∀ u ∈ l.flatMap enc, u.oneCell' = true)
    (h63 : n + l.length ≤ maxLen) (hbytes : (n + l.length) * bytes ≤ 140737488355328) (hbase : base ≤ w.heap.size)
    (h : ∀ v' w', w'.ownsRow base e size v' (n + l.length) (xs ++ l.flatMap enc) → w.grownBy w' v.ownBlock → wpList P ops Q rest (a.put o.dst v') w') : wpList P ops Q (o :: rest) a w :=
  wpList_step fun K hK => by
    rw [if_pos hw]
    exact wp_append_sl s x t ho base e i z size bytes ht hi hz hsize hby hzs hsz v n xs hs hown henc A l c hx hS h1 h63 hbytes hbase (fun v' w' h2 h3 => hK _ _ (h v' w' h2 h3))
end Go.Proofs.Ytpjkcmmmpgncmaa
