import Derived.Test.YtpjkcmmmpgncmaaM06
import Derived.Lib.SmallJoins
import Derived.Test.YtpjkcmmmpgncmaaM01
import Derived.Test.YtpjkcmmmpgncmaaSWrt
import Derived.RangeFuncNested
import Derived.RangeFuncBound
import Derived.RangeFuncCalls
import Derived.RangeFuncLeaves
import Derived.RangeFuncWrites
import Derived.RangeFuncBox
import Derived.Shelf.Abstract
import Derived.Shelf.RegionOpen
import Derived.WalkKit
import Derived.OwnWalkIn
import Derived.TacticsInMore
import Derived.LoopNIn
import Derived.LoopIn
import Derived.Test.YtpjkcmmmpgncmaaCommit
import Derived.Test.YtpjkcmmmpgncmaaWrtOk
import Derived.Test.YtpjkcmmmpgncmaaM04
import Derived.Test.YtpjkcmmmpgncmaaRows
import Derived.Test.YtpjkcmmmpgncmaaM02
import Derived.Test.YtpjkcmmmpgncmaaM03
/- append of a slice that reads as a list to a row of one's own, as a step of a region that draws its order: and where the row lies afterwards. -/
namespace Go.Proofs.Ytpjkcmmmpgncmaa
open Go.RowKit
theorem append_block {P : Program} {w : World} (base : Nat) (t ty e : TypeId) (i : TypeInfo) (z : Value) (size bytes : Nat) (ht : P.underlying t = some (.slice e)) (hi : P.info? e = some i) (hz : i.zero = some z)
    (hsize : i.size = size) (hby : i.bytes = bytes) (v : Value) (n : Nat) (xs : List Value) (hown : w.ownsRow base e size v n xs)
    (a : Addr) (m c : Nat) (news : List Value) (hl : news.length = m * size) (hnews : ∀ j u, news[j]? = some u → w.cell? (a.add j) = some u) (h1 : ∀ u ∈ news, u.oneCell' = true)
    (h63 : n + m ≤ maxLen) (hbytes : (n + m) * bytes ≤ 140737488355328) (v' : Value) (w' : World) (hr : (Builtin.append_ #[t, t] ty #[v, .slice (some a) m c]).run P w = .ok v' w') :
    v'.ownBlock = v.ownBlock ∨ ∃ b, v'.ownBlock = some b ∧ w.heap.size ≤ b := by
  subst hsize
  subst hby
  have hsmall : n + m ≤ 9223372036854775807 := by simp only [maxLen] at h63; omega
  rcases hown.2 with ⟨rfl, rfl⟩ | ⟨g, cap, cur, rfl, hbg, hg, hnc, hcm, hcs, htake⟩
  · by_cases hm : m = 0
    · subst hm
      have hr2 : (Builtin.append_ #[t, t] ty #[.slice none 0 0, .slice (some a) 0 c]).run P w = .ok (.slice none 0 0) w := by
        simp [Builtin.append_, run_underlying ht, sizeOf, typeInfo, hi, Builtin.lenOf, Builtin.firstCells, loadCells, loadCellsFrom]
      rw [hr2] at hr
      injection hr with e1 e2
      subst e1
      exact .inl rfl
    · have hr2 := Go.run_append_nil (P := P) w t ty e i z ht hi hz a m c news hl hnews (by omega) (by omega) (by have hb := hbytes; simp only [Nat.zero_add] at hb; omega)
      rw [hr2] at hr
      injection hr with e1 e2
      subst e1
      exact .inr ⟨w.heap.size, rfl, Nat.le_refl _⟩
  · by_cases hroom : n + m ≤ cap
    · have hfit : n * i.size + news.length ≤ cur.size := by rw [hl, hcs, ← Nat.add_mul]; exact Nat.mul_le_mul_right _ hroom
      have hr2 := run_append_room (P := P) w t ty e i ht hi g n cap cur hg a m c news hl hnews h1 hroom hfit
      rw [hr2] at hr
      injection hr with e1 e2
      subst e1
      exact .inl rfl
    · have holds : ∀ j u, xs[j]? = some u → w.cell? ((⟨g, 0, none⟩ : Addr).add j) = some u := hown.cells (g := g) rfl
      have hr2 := run_append_grow (P := P) w t ty e i z ht hi hz ⟨g, 0, none⟩ n cap xs hown.1 holds a m c news hl hnews (by omega) (by omega) (growslice_fits (by omega) hbytes)
      rw [hr2] at hr
      injection hr with e1 e2
      subst e1
      exact .inr ⟨w.heap.size, rfl, Nat.le_refl _⟩
theorem step_append_slB {α : Type} {enc : α → List Value} {P : Program} {w : World} {ops : Array Oper} {o : Oper} {a : Act} {K : Act → World → Prop} {Q : Exit → Act → World → Prop} {E : Prop} (hgd : o.guard = none) (s x : Operand) (t : TypeId)
    (ho : o.op = .call { callee := .builtin .append, args := #[s, x], argTypes := #[t, t] })
    (base : Nat) (e : TypeId) (i : TypeInfo) (z : Value) (size bytes : Nat) (ht : P.underlying t = some (.slice e)) (hi : P.info? e = some i) (hz : i.zero = some z)
    (hsize : i.size = size) (hby : i.bytes = bytes) (hzs : z.cells.size = size) (hsz : 0 < size)
    (v : Value) (n : Nat) (xs : List Value) (hs : a.eval s = v) (hown : w.ownsRow base e size v n xs)
    (henc : ∀ x, (enc x).length = size) (A : Option Addr) (l : List α) (m c : Nat) (hm : m = l.length) (hx : a.eval x = .slice A m c) (hS : Sl enc size w A l) (h1 : ∀ u ∈ l.flatMap enc, u.oneCell' = true)
    (h63 : n + l.length ≤ maxLen) (hbytes : (n + l.length) * bytes ≤ 140737488355328) (hbase : base ≤ w.heap.size)
    (h : ∀ v' w', w'.ownsRow base e size v' (n + l.length) (xs ++ l.flatMap enc) → w.grownBy w' v.ownBlock → (v'.ownBlock = v.ownBlock ∨ ∃ b, v'.ownBlock = some b ∧ w.heap.size ≤ b) → K (a.put o.dst v') w') :
    if Region.wanted o (yielded ops a.tmps) = true then Oper.wp P o a w K Q else E := by
  rw [if_pos (by simp [Region.wanted, hgd])]
  subst hm
  rcases A with _ | ad
  · have hl : l = [] := by
      rcases Nat.eq_zero_or_pos l.length with h0 | h0
      · exact List.eq_nil_of_length_eq_zero h0
      · obtain ⟨b, o, he, _⟩ := hS h0; cases he
    subst hl
    have hrun := append_nil (P := P) (w := w) base t o.type e i size ht hi v n xs hown c
    unfold Oper.wp
    simp [execOp, ho, resolve, invoke, builtin, hs, hx, hrun, Result.andThen]
    exact h v w (by simpa using hown) (World.grownBy.refl w _) (.inl rfl)
  · obtain ⟨v', w', hr, h2, h3, _⟩ := run_append_own (P := P) w base t o.type e i z size bytes ht hi hz hsize hby hzs hsz v n xs hown ad l.length c (l.flatMap enc) (flat_len henc l) (Sl.cells henc hS) h1 h63 hbytes hbase
    have h5 := append_block base t o.type e i z size bytes ht hi hz hsize hby v n xs hown ad l.length c (l.flatMap enc) (flat_len henc l) (Sl.cells henc hS) h1 h63 hbytes v' w' hr
    unfold Oper.wp execOp
    simp only [ho, resolve, invoke, builtin, Sem.run_bind, Sem.run_pure, Result.andThen_ok, List.map_toArray, List.map_cons, List.map_nil, hs, hx, hr]
    exact h v' w' h2 h3 h5
theorem wpList_append_slM {α : Type} {enc : α → List Value} {P : Program} {w : World} {ops : Array Oper} {rest : List Oper} {o : Oper} {a : Act} {Q : Exit → Act → World → Prop} (hgd : o.guard = none) (s x : Operand) (t : TypeId)
    (ho : o.op = .call { callee := .builtin .append, args := #[s, x], argTypes := #[t, t] })
    (base : Nat) (e : TypeId) (i : TypeInfo) (z : Value) (size bytes : Nat) (ht : P.underlying t = some (.slice e)) (hi : P.info? e = some i) (hz : i.zero = some z)
    (hsize : i.size = size) (hby : i.bytes = bytes) (hzs : z.cells.size = size) (hsz : 0 < size)
    (v : Value) (n : Nat) (xs : List Value) (hs : a.eval s = v) (hown : w.ownsRow base e size v n xs)
    (henc : ∀ x, (enc x).length = size) (A : Option Addr) (l : List α) (m c : Nat) (hm : m = l.length) (hx : a.eval x = .slice A m c) (hS : Sl enc size w A l) (h1 : ∀ u ∈ l.flatMap enc, u.oneCell' = true)
    (h63 : n + l.length ≤ maxLen) (hbytes : (n + l.length) * bytes ≤ 140737488355328) (hbase : base ≤ w.heap.size)
    (h : ∀ v' w', w'.ownsRow base e size v' (n + l.length) (xs ++ l.flatMap enc) → w.grownBy w' v.ownBlock → (v'.ownBlock = v.ownBlock ∨ ∃ b, v'.ownBlock = some b ∧ w.heap.size ≤ b) → wpList P ops Q rest (a.put o.dst v') w') : wpList P ops Q (o :: rest) a w :=
  wpList_step fun K hK => step_append_slB (E := K (a.put o.dst undef) w) hgd s x t ho base e i z size bytes ht hi hz hsize hby hzs hsz v n xs hs hown henc A l m c hm hx hS h1 h63 hbytes hbase (fun v' w' h2 h3 h4 => hK _ _ (h v' w' h2 h3 h4))
end Go.Proofs.Ytpjkcmmmpgncmaa
/- A row of writes in memory of one's own: parts of it, more behind it. -/
namespace Go.Proofs.Ytpjkcmmmpgncmaa
open Go.RowKit
theorem encWri_one (l : List Wri) : ∀ u ∈ l.flatMap encWri, u.oneCell' = true := by
  intro u hu
  obtain ⟨x, _, hx⟩ := List.mem_flatMap.1 hu
  simp [encWri] at hx
  rcases hx with rfl | rfl | rfl <;> rfl
def OwnW (w : World) (B : Nat) (v : Value) (l : List Wri) : Prop := w.ownsRow B 46 3 v l.length (l.flatMap encWri)
theorem OwnW.sl {w : World} {B : Nat} {v : Value} {l : List Wri} (h : OwnW w B v l) : ∃ A c, v = .slice A l.length c ∧ l.length ≤ c ∧ c ≤ maxLen ∧ Sl encWri 3 w A l := Sl.of_own encWri_len h
theorem OwnW.reads {w : World} {B c n : Nat} {A : Option Addr} {l : List Wri} (h : OwnW w B (.slice A n c) l) : Sl encWri 3 w A l := by
  obtain ⟨a1, a2, a3, _, _, a4⟩ := h.sl
  injection a3 with b1 b2 b3
  subst b1; exact a4
theorem ownW_of {w : World} {B : Nat} {v : Value} {l : List Wri} (h : w.ownsRow B 46 3 v (0 + l.length) ([] ++ l.flatMap encWri)) : OwnW w B v l := by unfold OwnW; simpa using h
theorem ownW_app {w : World} {B : Nat} {v : Value} {l m : List Wri} (h : w.ownsRow B 46 3 v (l.length + m.length) (l.flatMap encWri ++ m.flatMap encWri)) : OwnW w B v (l ++ m) := by
  unfold OwnW; rw [List.length_append, List.flatMap_append]; exact h
theorem slw_one {w : World} {g : Nat} {x : Wri} (h : Blk w g 46 #[.string x.1, .int .i64 x.2.1, .bool x.2.2]) : Sl encWri 3 w (some ⟨g, 0, none⟩) [x] := by
  intro _
  refine ⟨g, 0, rfl, h.lt, fun i j y hy hj => ?_⟩
  obtain ⟨rfl, rfl⟩ : i = 0 ∧ y = x := by
    cases i with
    | zero => simp at hy; exact ⟨rfl, hy.symm⟩
    | succ i => simp at hy
  simp only [Nat.zero_mul, Nat.zero_add]
  rw [h.cell]
  match j, hj with
  | 0, _ => rfl
  | 1, _ => rfl
  | 2, _ => rfl
theorem Sl.drop3 {w : World} {b o : Nat} {l : List Wri} (h : Sl encWri 3 w (some ⟨b, o, none⟩) l) (k : Nat) : Sl encWri 3 w (some ⟨b, o + k * 3, none⟩) (l.drop k) := by
  intro hl
  rw [List.length_drop] at hl
  obtain ⟨b', o', he, hb, hc⟩ := h (by omega)
  simp at he
  obtain ⟨rfl, rfl⟩ := he
  refine ⟨b, o + k * 3, rfl, hb, fun i j x hx hj => ?_⟩
  rw [List.getElem?_drop] at hx
  rw [show o + k * 3 + i * 3 + j = o + (k + i) * 3 + j by omega]
  exact hc (k + i) j x hx hj
theorem Sl.nilW {w : World} {A : Option Addr} {l : List Wri} (h : l.length = 0) : Sl encWri 3 w A l := fun h2 => by omega
/-- an empty row and a row of one, made in either order -/
theorem own_empty {w : World} : OwnW (w.alloc (.cells #[] 46)) w.heap.size (.slice (some ⟨w.heap.size, 0, none⟩) 0 0) [] :=
  own_of_blk (Blk.new w 46 #[]) (Nat.le_refl _) (Nat.zero_le _) rfl rfl
theorem OwnW.below {w w' : World} {B : Nat} {v : Value} {l : List Wri} (h : OwnW w B v l) (hb : Below w.heap.size w w') : OwnW w' B v l := own_kept h hb
theorem OwnW.leB {w : World} {B B2 : Nat} {v : Value} {l : List Wri} (h : OwnW w B v l) (hb : B2 ≤ B) : OwnW w B2 v l := Go.Joins.ownsRow_le h hb
theorem ownW_some {w : World} {B : Nat} {v : Value} {l : List Wri} (h : OwnW w B v l) (hl : 0 < l.length) : ∃ g c, v = .slice (some ⟨g, 0, none⟩) l.length c := by
  rcases h.2 with ⟨rfl, h2⟩ | ⟨g, cap, cur, rfl, h2⟩
  · omega
  · exact ⟨g, cap, rfl⟩
end Go.Proofs.Ytpjkcmmmpgncmaa
/- The program's VersDo. -/
namespace Go.Proofs.Ytpjkcmmmpgncmaa
open Go.RowKit
/-- an answer of a store and a truth value, in memory of one's own -/
def DoPost (w : World) (r : (Int × List Ver) × Bool) (e : Ending) (w' : World) : Prop :=
  ∃ v, e = .returned (.tuple #[.agg #[.int .i64 r.1.1, v], .bool r.2]) ∧ OwnV w' w.heap.size v r.1.2 ∧ Below w.heap.size w w'
end Go.Proofs.Ytpjkcmmmpgncmaa
/- What is done one behind the other: plain words. -/
namespace Go.Proofs.Ytpjkcmmmpgncmaa
open Go.RowKit
/-- all that is done, one behind the other -/
noncomputable def goF (now : Int) (l : List Ver) : List (List Wri) → (Int × List Ver) × Bool
  | [] => ((now, l), true)
  | r :: rs => if wrsB 20 r = true then (if versB (now + 1) (doS (now + 1) l r) = true then goF (now + 1) (doS (now + 1) l r) rs else ((0, []), false)) else ((0, []), false)
theorem vers_start : versB 0 [] = true := versB_yes ⟨⟨by decide, by decide, by decide⟩, fun i h => absurd h (by simp), fun i h => absurd h (by simp), fun t _ _ => by simp [atL]⟩
/-- the rows from the k-th on -/
def goK (rs : List Wrow) (k : Nat) (now : Int) (l : List Ver) : Prop := goF 0 [] (cont rs) = goF now l ((cont rs).drop k)
theorem OwnV.reads2 {w : World} {B c : Nat} {A : Option Addr} {l : List Ver} (h : OwnV w B (.slice A l.length c) l) : Sl encVer 4 w A l := by
  obtain ⟨a1, a2, a3, _, _, a4⟩ := h.sl
  injection a3 with b1 b2 b3
  subst b1; exact a4
/-- what stands while rows are done: the answer so far, in its box -/
def PI (w : World) (g : Nat) (rs : List Wrow) (k : Nat) (now : Int) (A : Option Addr) (l : List Ver) (c : Nat) (W : World) : Prop :=
  goK rs k now l ∧ versB now l = true ∧ Blk W g 32 #[.int .i64 now, .slice A l.length c] ∧ Blk W w.heap.size 32 #[.int .i64 0, .slice none 0 0] ∧ OwnV W w.heap.size (.slice A l.length c) l ∧ Below w.heap.size w W ∧ FitsV l
theorem PI.below {w : World} {g : Nat} {rs : List Wrow} {k : Nat} {now : Int} {A : Option Addr} {l : List Ver} {c : Nat} {W W' : World} (h : PI w g rs k now A l c W) (hb : Below W.heap.size W W') : PI w g rs k now A l c W' := by
  obtain ⟨h1, h2, h3, h4, h5, h6, h7⟩ := h
  exact ⟨h1, h2, h3.kept hb, h4.kept hb, own_kept h5 hb, bthen h6 hb, h7⟩
theorem own_setV {W : World} {B g : Nat} {v a b : Value} {l : List Ver} (h : OwnV W B v l) (hb : Blk W g 32 #[a, b]) (x y : Value) : OwnV ((W.setCell ⟨g, 0, none⟩ x).setCell ⟨g, 1, none⟩ y) B v l := by
  have h1 : OwnV (W.setCell ⟨g, 0, none⟩ x) B v l := ownsRow_setCell_other h (Ne.symm (own_ne h hb)) x
  exact ownsRow_setCell_other h1 (Ne.symm (own_ne h1 (hb.set_ 0 _))) _
theorem fits_do {now : Int} {l : List Ver} {ws : List Wri} (hl : l.length ≤ 400) (hws : ws.length ≤ 400) (hf : FitsV l) (hf2 : FitsW ws) : FitsV (doS now l ws) ∧ (doS now l ws).length ≤ 800 := by
  have := doS_len now ws l
  exact ⟨⟨by unfold maxLen; omega, doS_fits ws l hf.2 hf2.2⟩, by omega⟩
end Go.Proofs.Ytpjkcmmmpgncmaa
/- Drawing a letter. -/
namespace Go.Proofs.Ytpjkcmmmpgncmaa
open Go.RowKit
theorem grown_trans {w w1 w2 : World} {r : Option Nat} (h : w.grownBy w1 r) (h2 : w1.grownBy w2 r) : w.grownBy w2 r :=
  ⟨h2.os.trans h.os, h2.tape.trans h.tape, h2.output.trans h.output, Nat.le_trans h.size h2.size, fun k hk hne => (h2.block k (Nat.lt_of_lt_of_le hk h.size) hne).trans (h.block k hk hne)⟩
theorem grown_below {w w1 : World} {r : Option Nat} (h : Below w.heap.size w w1) : w.grownBy w1 r := ⟨h.os, h.tape, h.output, h.size, fun k hk _ => h.block k hk⟩
theorem grown_alloc {w w1 : World} {r : Option Nat} (h : w.grownBy w1 r) (o : Obj) : w.grownBy (w1.alloc o) r := grown_trans h (grown_below ((Below.refl _ _).alloc (Nat.le_refl _) o))
theorem grown_far {w w1 : World} {r : Option Nat} (h : w.grownBy w1 r) {p : Addr} (hp : w.heap.size ≤ p.block) (u : Value) : w.grownBy (w1.setCell p u) r :=
  ⟨h.os, h.tape, h.output, by rw [World.size_setCell]; exact h.size, fun k hk hne => (heap_setCell_other w1 p k u (by omega)).trans (h.block k hk hne)⟩
theorem Rd.far {w0 w : World} {A : Option Addr} {bs : List UInt8} {c g q : Nat} (h : Rd w0 w A bs c g q) {p : Addr} (hp : g ≠ p.block) (hp0 : w0.heap.size ≤ p.block) (u : Value) : Rd w0 (w.setCell p u) A bs c g q :=
  ⟨h.1.far hp u, h.2.1.setCell hp0 u, h.2.2⟩
theorem Sl.lit (w : World) (t : TypeId) (l : List ByteArray) (cs : Array Value) (h : cs.toList = l.map Value.string) : Sl (fun x => [.string x]) 1 (w.alloc (.cells cs t)) (some ⟨w.heap.size, 0, none⟩) l := by
  intro hl
  refine ⟨w.heap.size, 0, rfl, by simp, fun i j x hx hj => ?_⟩
  obtain rfl : j = 0 := by omega
  have h0 := (Blk.new w t cs).cell i
  simp only [Nat.mul_one, Nat.add_zero, Nat.zero_add]
  rw [h0, ← Array.getElem?_toList, h, List.getElem?_map, hx]; rfl
def DrawPost (w0 w : World) (A : Option Addr) (bs : List UInt8) (c g p n : Nat) (e : Ending) (w' : World) : Prop :=
  ∃ (x : Let) (q : Nat), e = .returned (.agg #[.string x.1, .string x.2]) ∧ x.1.size ≤ 2 ∧ x.2.size ≤ 900 ∧ q ≤ p + n ∧ Rd w0 w' A bs c g q ∧ w.grownBy w' (some g)
def sgnL : List ByteArray := [⟨#[81]⟩, ⟨#[80]⟩, ⟨#[69]⟩, ⟨#[83]⟩, ⟨#[88]⟩, ⟨#[90]⟩, ⟨#[49]⟩]
def bodL : List ByteArray := [⟨#[]⟩, ⟨#[103, 101, 116, 32, 97]⟩, ⟨#[112, 117, 116, 32, 97, 98, 32, 45, 55]⟩, ⟨#[110, 32, 103, 101, 116, 32, 97]⟩, ⟨#[110]⟩, ⟨#[98, 101, 103, 105, 110]⟩, ⟨#[97, 108, 108, 32, 97, 32, 122, 122]⟩]
def badL : List ByteArray := [⟨#[]⟩, ⟨#[113]⟩, ⟨#[81, 81]⟩, ⟨#[32]⟩]
theorem badL_le : ∀ x ∈ badL, x.size ≤ 2 := by decide
theorem sgnL_le : ∀ x ∈ sgnL, x.size ≤ 2 := by decide
theorem bodL_le : ∀ x ∈ bodL, x.size ≤ 20 := by decide
set_option maxRecDepth 100000 in
set_option maxHeartbeats 1000000 in
theorem letter_any (w0 : World) (A : Option Addr) (bs : List UInt8) (c g p : Nat) (w : World) (hR : Rd w0 w A bs c g p) (hp : p < 1000000) :
    Calls Try.prog 137 #[.pointer (some ⟨g, 0, none⟩)] w (DrawPost w0 w A bs c g p 4) := by
  have hgl := hR.1.lt
  have hg0 : w0.heap.size ≤ g := hR.2.2.1
  have hR1 := hR.alloc (.cells #[.string ⟨#[]⟩, .string ⟨#[]⟩] 94)
  have hB := Blk.new w 94 #[.string ⟨#[]⟩, .string ⟨#[]⟩]
  have hG : w.grownBy (w.alloc (.cells #[.string ⟨#[]⟩, .string ⟨#[]⟩] 94)) (some g) := grown_alloc (World.grownBy.refl w (some g)) _
  have hs1 : (w.alloc (.cells #[.string ⟨#[]⟩, .string ⟨#[]⟩] 94)).heap.size = w.heap.size + 1 := by simp
  go_enter Try.func137, Try.ntmps137
  go_wp2_with fail
  generalize w.alloc (.cells #[.string ⟨#[]⟩, .string ⟨#[]⟩] 94) = w1 at *
  have S1 := Sl.lit w1 9 sgnL #[.string ⟨#[81]⟩, .string ⟨#[80]⟩, .string ⟨#[69]⟩, .string ⟨#[83]⟩, .string ⟨#[88]⟩, .string ⟨#[90]⟩, .string ⟨#[49]⟩] rfl
  rw [hs1] at S1
  refine (of_any w0 A bs c g p (some ⟨w.heap.size + 1, 0, none⟩) sgnL 7 _ (hR1.alloc _) (by omega) (by decide) S1 (by intro b o h; simp at h; omega)).mono ?_
  rintro e w2 ⟨x1, hx1, rfl, hR2, hG2⟩
  have hl1 := sgnL_le x1 hx1
  have hB2 := (hB.alloc _).grown hG2 (by simp; omega)
  have hG02 := grown_trans (grown_alloc hG _) hG2
  have hs2 := hG2.size
  rw [World.size_alloc, hs1] at hs2
  clear hB hG hG2 S1 hx1 hR1 hR
  go_wp2_with fail
  have S2 := Sl.lit w2 9 bodL #[.string ⟨#[]⟩, .string ⟨#[103, 101, 116, 32, 97]⟩, .string ⟨#[112, 117, 116, 32, 97, 98, 32, 45, 55]⟩, .string ⟨#[110, 32, 103, 101, 116, 32, 97]⟩, .string ⟨#[110]⟩, .string ⟨#[98, 101, 103, 105, 110]⟩, .string ⟨#[97, 108, 108, 32, 97, 32, 122, 122]⟩] rfl
  refine (of_any w0 A bs c g (p + 1) (some ⟨w2.heap.size, 0, none⟩) bodL 7 _ (hR2.alloc _) (by omega) (by decide) S2 (by intro b o h; simp at h; omega)).mono ?_
  rintro e w3 ⟨x2, hx2, rfl, hR3, hG3⟩
  have hl2 := bodL_le x2 hx2
  have hB3 := (hB2.alloc _).grown hG3 (by simp; omega)
  have hG03 := grown_trans (grown_alloc hG02 _) hG3
  have hs3 := hG3.size
  rw [World.size_alloc] at hs3
  clear hB2 hG02 hG3 S2 hx2 hR2
  go_wp2_with fail
  refine (pick_any w0 A bs c g (p + 1 + 1) 48 _ (hR3.alloc _) (by omega) (by omega)).mono ?_
  rintro e w4 ⟨k, hk, rfl, hR4, hG4⟩
  have hL4 := (Blk.new w3 94 #[.string x1, .string x2]).grown hG4 (by simp; omega)
  have hB4 := (hB3.alloc _).grown hG4 (by simp; omega)
  have hG04 := grown_trans (grown_alloc hG03 _) hG4
  have hs4 := hG4.size
  rw [World.size_alloc] at hs4
  have z0 := hL4.frozen 0
  have z1 := hL4.frozen 1
  have y0 := hB4.frozen 0
  have y1 := hB4.frozen 1
  have c0 : w4.cell? ⟨w3.heap.size, 0, none⟩ = some (.string x1) := hL4.cell 0
  have c1 : w4.cell? ⟨w3.heap.size, 1, none⟩ = some (.string x2) := hL4.cell 1
  have b0 : w4.cell? ⟨w.heap.size, 0, none⟩ = some (.string ⟨#[]⟩) := hB4.cell 0
  have b1 : w4.cell? ⟨w.heap.size, 1, none⟩ = some (.string ⟨#[]⟩) := hB4.cell 1
  have HB4 := Lib.hid hB4
  have HL4 := Lib.hid hL4
  clear hB3 hG03 hG4 hR3 hB4 hL4
  by_cases k4 : 4 ≤ k
  · have e0 : ((k : Int) == 0) = false := by simp; omega
    have e1 : ((k : Int) == 1) = false := by simp; omega
    have e2 : ((k : Int) == 2) = false := by simp; omega
    have e3 : ((k : Int) == 3) = false := by simp; omega
    go_wp2
    obtain ⟨q0, q1⟩ := HB4.out.two (.string x1) (.string x2)
    refine bodyPost_ret (v := .agg #[.string x1, .string x2]) (by simp [results, Try.results137, go_sem, q0, q1]) rfl ⟨(x1, x2), p + 1 + 1 + 1, rfl, hl1, by simp only; omega, by omega, (hR4.far (by simp; omega) (by simp; omega) _).far (by simp; omega) (by simp; omega) _, grown_far (grown_far hG04 (by simp) _) (by simp) _⟩
  · have hk4 : k = 0 ∨ k = 1 ∨ k = 2 ∨ k = 3 := by omega
    clear k4 hk
    rcases hk4 with rfl | rfl | rfl | rfl
    · clear c0 c1 b0 b1 z0 z1 y0 y1
      go_wp2_with fail
      have S5 := Sl.lit w4 9 badL #[.string ⟨#[]⟩, .string ⟨#[113]⟩, .string ⟨#[81, 81]⟩, .string ⟨#[32]⟩] rfl
      refine (of_any w0 A bs c g (p + 1 + 1 + 1) (some ⟨w4.heap.size, 0, none⟩) badL 4 _ (hR4.alloc _) (by omega) (by decide) S5 (by intro b o h; simp at h; omega)).mono ?_
      rintro e w5 ⟨x3, hx3, rfl, hR5, hG5⟩
      have hl3 := badL_le x3 hx3
      have hL5 := (HL4.out.alloc _).grown hG5 (by simp; omega)
      have hB5 := (HB4.out.alloc _).grown hG5 (by simp; omega)
      have hG05 := grown_trans (grown_alloc hG04 _) hG5
      have hs5 := hG5.size
      have z0 := hL5.frozen 0
      have z1 := hL5.frozen 1
      have y0 := hB5.frozen 0
      have y1 := hB5.frozen 1
      have c0 : w5.cell? ⟨w3.heap.size, 0, none⟩ = some (.string x1) := hL5.cell 0
      have c1 : w5.cell? ⟨w3.heap.size, 1, none⟩ = some (.string x2) := hL5.cell 1
      have b0 : w5.cell? ⟨w.heap.size, 0, none⟩ = some (.string ⟨#[]⟩) := hB5.cell 0
      have b1 : w5.cell? ⟨w.heap.size, 1, none⟩ = some (.string ⟨#[]⟩) := hB5.cell 1
      have HB5 := Lib.hid hB5
      clear hL5 hB5 hG5
      rw [World.size_alloc] at hs5
      clear S5 hx3 hR4
      go_wp2
      obtain ⟨q0, q1⟩ := (HB5.out.far (p := ⟨w3.heap.size, 0, none⟩) (by simp; omega) (.string x3)).two (.string x3) (.string x2)
      refine bodyPost_ret (v := .agg #[.string x3, .string x2]) (by simp [results, Try.results137, go_sem, q0, q1]) rfl ⟨(x3, x2), p + 1 + 1 + 1 + 1, rfl, hl3, by simp only; omega, by omega, ((hR5.far (by simp; omega) (by simp; omega) _).far (by simp; omega) (by simp; omega) _).far (by simp; omega) (by simp; omega) _, grown_far (grown_far (grown_far hG05 (by simp; omega) _) (by simp) _) (by simp) _⟩
    · have hcat : ¬ (9223372036854775807 < x2.size + 1) := by omega
      go_wp2
      obtain ⟨q0, q1⟩ := (HB4.out.far (p := ⟨w3.heap.size, 1, none⟩) (by simp; omega) (.string (x2 ++ ⟨#[10]⟩))).two (.string x1) (.string (x2 ++ ⟨#[10]⟩))
      refine bodyPost_ret (v := .agg #[.string x1, .string (x2 ++ ⟨#[10]⟩)]) (by simp [results, Try.results137, go_sem, q0, q1]) rfl ⟨(x1, (x2 ++ ⟨#[10]⟩)), p + 1 + 1 + 1, rfl, hl1, by rw [ByteArray.size_append]; show x2.size + 1 ≤ 900; omega, by omega, ((hR4.far (by simp; omega) (by simp; omega) _).far (by simp; omega) (by simp; omega) _).far (by simp; omega) (by simp; omega) _, grown_far (grown_far (grown_far hG04 (by simp; omega) _) (by simp) _) (by simp) _⟩
    · clear c0 c1 b0 b1 z0 z1 y0 y1
      go_wp2_with fail
      refine (pick_any w0 A bs c g (p + 1 + 1 + 1) 2 _ hR4 (by omega) (by omega)).mono ?_
      rintro e w5 ⟨kk, hkk, rfl, hR5, hG5⟩
      have hL5 := HL4.out.grown hG5 (by simp; omega)
      have hB5 := HB4.out.grown hG5 (by simp; omega)
      have hG05 := grown_trans hG04 hG5
      have hs5 := hG5.size
      have z0 := hL5.frozen 0
      have z1 := hL5.frozen 1
      have y0 := hB5.frozen 0
      have y1 := hB5.frozen 1
      have c0 : w5.cell? ⟨w3.heap.size, 0, none⟩ = some (.string x1) := hL5.cell 0
      have c1 : w5.cell? ⟨w3.heap.size, 1, none⟩ = some (.string x2) := hL5.cell 1
      have b0 : w5.cell? ⟨w.heap.size, 0, none⟩ = some (.string ⟨#[]⟩) := hB5.cell 0
      have b1 : w5.cell? ⟨w.heap.size, 1, none⟩ = some (.string ⟨#[]⟩) := hB5.cell 1
      have HB5 := Lib.hid hB5
      clear hL5 hB5 hG5
      clear hR4
      go_wp2_with fail
      refine (many_any ⟨#[120]⟩ (40 + kk) w5 (by decide) (by omega)).mono ?_
      rintro e w6 ⟨t, rfl, ht, rfl⟩
      go_wp2
      obtain ⟨q0, q1⟩ := (HB5.out.far (p := ⟨w3.heap.size, 1, none⟩) (by simp; omega) (.string t)).two (.string x1) (.string t)
      refine bodyPost_ret (v := .agg #[.string x1, .string t]) (by simp [results, Try.results137, go_sem, q0, q1]) rfl ⟨(x1, t), p + 1 + 1 + 1 + 1, rfl, hl1, by simp only; omega, by omega, ((hR5.far (by simp; omega) (by simp; omega) _).far (by simp; omega) (by simp; omega) _).far (by simp; omega) (by simp; omega) _, grown_far (grown_far (grown_far hG05 (by simp; omega) _) (by simp) _) (by simp) _⟩
    · have hcat : ¬ (9223372036854775807 < 1 + x2.size) := by omega
      go_wp2
      obtain ⟨q0, q1⟩ := (HB4.out.far (p := ⟨w3.heap.size, 1, none⟩) (by simp; omega) (.string (⟨#[127]⟩ ++ x2))).two (.string x1) (.string (⟨#[127]⟩ ++ x2))
      refine bodyPost_ret (v := .agg #[.string x1, .string (⟨#[127]⟩ ++ x2)]) (by simp [results, Try.results137, go_sem, q0, q1]) rfl ⟨(x1, (⟨#[127]⟩ ++ x2)), p + 1 + 1 + 1, rfl, hl1, by rw [ByteArray.size_append]; show 1 + x2.size ≤ 900; omega, by omega, ((hR4.far (by simp; omega) (by simp; omega) _).far (by simp; omega) (by simp; omega) _).far (by simp; omega) (by simp; omega) _, grown_far (grown_far (grown_far hG04 (by simp; omega) _) (by simp) _) (by simp) _⟩
end Go.Proofs.Ytpjkcmmmpgncmaa
