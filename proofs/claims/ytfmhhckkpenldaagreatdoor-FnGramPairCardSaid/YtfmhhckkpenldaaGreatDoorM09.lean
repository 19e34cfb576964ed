import Derived.Laws.AppendOwnNone
import Derived.Test.YtfmhhckkpenldaaGreatDoorM04
import Derived.Test.YtfmhhckkpenldaaGreatDoorM19
import Derived.Test.YtfmhhckkpenldaaGreatDoorShelf
import Derived.Lib.LaidTab
import Derived.Test.YtfmhhckkpenldaaGreatDoorM01
/- append(v, u...) where v is a row of the call's own and u a slice that reads as a list; in a plain region, guarded or not, and as a step of a region that draws its order. -/
namespace Go.Proofs.YtfmhhckkpenldaaGreatDoor
open Go.RowKit
theorem append_nil {P : Program} {w : World} (base : Nat) (t ty e : TypeId) (i : TypeInfo) (size : Nat) (ht : P.underlying t = some (.slice e)) (hi : P.info? e = some i) (v : Value) (n : Nat) (xs : List Value)
    (hown : w.ownsRow base e size v n xs) (c : Nat) : (Builtin.append_ #[t, t] ty #[v, .slice none 0 c]).run P w = .ok v w := by
  rcases hown.2 with ⟨rfl, rfl⟩ | ⟨g, cap, cur, rfl, _, _, hnc, _⟩
  · simp [Builtin.append_, run_underlying ht, sizeOf, typeInfo, hi, Builtin.lenOf, Builtin.firstCells]
  · simp [Builtin.append_, run_underlying ht, sizeOf, typeInfo, hi, Builtin.lenOf, Builtin.firstCells, hnc, storeCells]
theorem Sl.cells {α : Type} {enc : α → List Value} {k : Nat} {w : World} {ad : Addr} {l : List α} (henc : ∀ x, (enc x).length = k) (h : Sl enc k w (some ad) l) : ∀ j u, (l.flatMap enc)[j]? = some u → w.cell? (ad.add j) = some u := by
  intro j u hj
  have hjl : j < (l.flatMap enc).length := (List.getElem?_eq_some_iff.1 hj).1
  rw [flat_len henc] at hjl
  have hk : 0 < k := by rcases Nat.eq_zero_or_pos k with h0 | h0; subst h0; omega; exact h0
  have hl : 0 < l.length := by rcases Nat.eq_zero_or_pos l.length with h0 | h0; rw [h0] at hjl; omega; exact h0
  obtain ⟨b, o, he, _, hc⟩ := h hl
  injection he with he
  subst he
  have hi : j / k < l.length := Nat.div_lt_of_lt_mul (by rw [Nat.mul_comm]; exact hjl)
  have hr : j % k < k := Nat.mod_lt _ hk
  have hx := List.getElem?_eq_getElem hi
  have e1 : j / k * k + j % k = j := by rw [Nat.mul_comm]; exact Nat.div_add_mod j k
  have := hc (j / k) (j % k) _ hx hr
  rw [← flat_get henc l (j / k) (j % k) _ hx hr, e1, hj] at this
  rw [Go.WideShapes.add_plain, ← this]
  congr 1
  rw [Nat.add_assoc, e1]
theorem wp_append_sl {α : Type} {enc : α → List Value} {P : Program} {w : World} {o : Oper} {a : Act} {K : Act → World → Prop} {Q : Exit → Act → World → Prop} (s x : Operand) (t : TypeId)
    (ho : o.op = .call { callee := .builtin .append, args := #[s, x], argTypes := #[t, t] })
    (base : Nat) (e : TypeId) (i : TypeInfo) (z : Value) (size bytes : Nat) (ht : P.underlying t = some (.slice e)) (hi : P.info? e = some i) (hz : i.zero = some z)
    (hsize : i.size = size) (hby : i.bytes = bytes) (hzs : z.cells.size = size) (hsz : 0 < size)
    (v : Value) (n : Nat) (xs : List Value) (hs : a.eval s = v) (hown : w.ownsRow base e size v n xs)
    (henc : ∀ x, (enc x).length = size) (A : Option Addr) (l : List α) (c : Nat) (hx : a.eval x = .slice A l.length c) (hS : Sl enc size w A l) (h1 : ∀ u ∈ l.flatMap enc, u.oneCell' = true)
    (h63 : n + l.length ≤ maxLen) (hbytes : (n + l.length) * bytes ≤ 140737488355328) (hbase : base ≤ w.heap.size)
    (h : ∀ v' w', w'.ownsRow base e size v' (n + l.length) (xs ++ l.flatMap enc) → w.grownBy w' v.ownBlock → K (a.put o.dst v') w') : o.wp P a w K Q := by
  rcases A with _ | ad
  · have hl : l = [] := by
      rcases Nat.eq_zero_or_pos l.length with h0 | h0
      · exact List.eq_nil_of_length_eq_zero h0
      · obtain ⟨b, o, he, _⟩ := hS h0; cases he
    subst hl
    have hrun := append_nil (P := P) (w := w) base t o.type e i size ht hi v n xs hown c
    unfold Oper.wp
    simp [execOp, ho, resolve, invoke, builtin, hs, hx, hrun, Result.andThen]
    exact h v w (by simpa using hown) (World.grownBy.refl w _)
  · exact wp_append_own w s x t ho base e i z size bytes ht hi hz hsize hby hzs hsz v n xs hs hown ad l.length c (l.flatMap enc) hx (flat_len henc l) (Sl.cells henc hS) h1 h63 hbytes hbase (fun v' w' h2 h3 _ => h v' w' h2 h3)
theorem step_append_sl {α : Type} {enc : α → List Value} {P : Program} {w : World} {ops : Array Oper} {o : Oper} {a : Act} {K : Act → World → Prop} {Q : Exit → Act → World → Prop} {E : Prop} (hgd : o.guard = none) (s x : Operand) (t : TypeId)
    (ho : o.op = .call { callee := .builtin .append, args := #[s, x], argTypes := #[t, t] })
    (base : Nat) (e : TypeId) (i : TypeInfo) (z : Value) (size bytes : Nat) (ht : P.underlying t = some (.slice e)) (hi : P.info? e = some i) (hz : i.zero = some z)
    (hsize : i.size = size) (hby : i.bytes = bytes) (hzs : z.cells.size = size) (hsz : 0 < size)
    (v : Value) (n : Nat) (xs : List Value) (hs : a.eval s = v) (hown : w.ownsRow base e size v n xs)
    (henc : ∀ x, (enc x).length = size) (A : Option Addr) (l : List α) (c : Nat) (hx : a.eval x = .slice A l.length c) (hS : Sl enc size w A l) (h1 : ∀ u ∈ l.flatMap enc, u.oneCell' = true)
    (h63 : n + l.length ≤ maxLen) (hbytes : (n + l.length) * bytes ≤ 140737488355328) (hbase : base ≤ w.heap.size)
    (h : ∀ v' w', w'.ownsRow base e size v' (n + l.length) (xs ++ l.flatMap enc) → w.grownBy w' v.ownBlock → K (a.put o.dst v') w') :
    if Region.wanted o (yielded ops a.tmps) = true then Oper.wp P o a w K Q else E := by
  rw [if_pos (by simp [Region.wanted, hgd])]
  exact wp_append_sl s x t ho base e i z size bytes ht hi hz hsize hby hzs hsz v n xs hs hown henc A l c hx hS h1 h63 hbytes hbase h
theorem wpList_append_sl {α : Type} {enc : α → List Value} {P : Program} {w : World} {ops : Array Oper} {rest : List Oper} {o : Oper} {a : Act} {Q : Exit → Act → World → Prop} (hw : Region.wanted o (yielded ops a.tmps) = true) (s x : Operand) (t : TypeId)
    (ho : o.op = .call { callee := .builtin .append, args := #[s, x], argTypes := #[t, t] })
    (base : Nat) (e : TypeId) (i : TypeInfo) (z : Value) (size bytes : Nat) (ht : P.underlying t = some (.slice e)) (hi : P.info? e = some i) (hz : i.zero = some z)
    (hsize : i.size = size) (hby : i.bytes = bytes) (hzs : z.cells.size = size) (hsz : 0 < size)
    (v : Value) (n : Nat) (xs : List Value) (hs : a.eval s = v) (hown : w.ownsRow base e size v n xs)
    (henc : ∀ x, (enc x).length = size) (A : Option Addr) (l : List α) (c : Nat) (hx : a.eval x = .slice A l.length c) (hS : Sl enc size w A l) (h1 : ∀ u ∈ l.flatMap enc, u.oneCell' = true)
    (h63 : n + l.length ≤ maxLen) (hbytes : (n + l.length) * bytes ≤ 140737488355328) (hbase : base ≤ w.heap.size)
    (h : ∀ v' w', w'.ownsRow base e size v' (n + l.length) (xs ++ l.flatMap enc) → w.grownBy w' v.ownBlock → wpList P ops Q rest (a.put o.dst v') w') : wpList P ops Q (o :: rest) a w :=
  wpList_step fun K hK => by
    rw [if_pos hw]
    exact wp_append_sl s x t ho base e i z size bytes ht hi hz hsize hby hzs hsz v n xs hs hown henc A l c hx hS h1 h63 hbytes hbase (fun v' w' h2 h3 => hK _ _ (h v' w' h2 h3))
end Go.Proofs.YtfmhhckkpenldaaGreatDoor
/- Plain words: what a commit does to a store: the reference's way, the program's way, and that they are one where the store is right. -/
namespace Go.Proofs.YtfmhhckkpenldaaGreatDoor
open Go.RowKit
/-- one version closed at a time, if it is of the key and still stands -/
def closeV (key : ByteArray) (now : Int) (x : Ver) : Ver := if x.1 = key ∧ x.2.2.2 = 0 then (x.1, x.2.1, x.2.2.1, now) else x
def closeL (key : ByteArray) (now : Int) (l : List Ver) : List Ver := l.map (closeV key now)
/-- the place behind the last version whose key is not greater -/
def atOf (key : ByteArray) (l : List Ver) : Nat := l.zipIdx.foldl (fun a p => if kLt key p.1.1 then a else p.2 + 1) 0
def insV (l : List Ver) (at_ : Nat) (w : Wri) (now : Int) : List Ver := if w.2.2 then l else l.take at_ ++ (w.1, w.2.1, now, 0) :: l.drop at_
/-- one write, the reference's way -/
def writeS (now : Int) (l : List Ver) (w : Wri) : List Ver := insV (closeL w.1 now l) (atOf w.1 l) w now
/-- all of a commit -/
def doS (now : Int) (l : List Ver) (ws : List Wri) : List Ver := ws.foldl (writeS now) l
theorem atOf_snoc (key : ByteArray) (l : List Ver) (x : Ver) : atOf key (l ++ [x]) = if kLt key x.1 then atOf key l else l.length + 1 := by
  unfold atOf; rw [List.zipIdx_append, List.foldl_append]; simp
theorem atOf_le (key : ByteArray) (l : List Ver) : atOf key l ≤ l.length := by
  have : ∀ r : List Ver, atOf key r.reverse ≤ r.reverse.length := fun r => by
    induction r with
    | nil => exact Nat.le_refl _
    | cons a r ih =>
      rw [List.reverse_cons, atOf_snoc]
      split
      · simp at ih ⊢; omega
      · simp
  have h := this l.reverse
  rwa [List.reverse_reverse] at h
theorem atOf_take (key : ByteArray) (l : List Ver) (k : Nat) (h : k < l.length) : atOf key (l.take (k+1)) = if kLt key l[k].1 then atOf key (l.take k) else k + 1 := by
  rw [List.take_succ_eq_append_getElem h, atOf_snoc, List.length_take, Nat.min_eq_left (by omega)]
theorem closeV_key (key : ByteArray) (now : Int) (x : Ver) : (closeV key now x).1 = x.1 := by unfold closeV; split <;> rfl
theorem closeL_len (key : ByteArray) (now : Int) (l : List Ver) : (closeL key now l).length = l.length := by simp [closeL]
theorem writeS_len (now : Int) (l : List Ver) (w : Wri) : (writeS now l w).length ≤ l.length + 1 := by
  unfold writeS insV
  split
  · rw [closeL_len]; omega
  · have := atOf_le w.1 l
    have h2 := closeL_len w.1 now l
    simp; omega
theorem writeS_fits {now : Int} {l : List Ver} {w : Wri} (hl : ∀ x ∈ l, x.1.size ≤ maxLen) (hw : w.1.size ≤ maxLen) : ∀ x ∈ writeS now l w, x.1.size ≤ maxLen := by
  have hc : ∀ x ∈ closeL w.1 now l, x.1.size ≤ maxLen := by
    intro x hx
    unfold closeL at hx
    obtain ⟨x0, h0, rfl⟩ := List.mem_map.1 hx
    rw [closeV_key]; exact hl x0 h0
  unfold writeS insV
  split
  · exact hc
  · intro x hx
    rw [List.mem_append, List.mem_cons] at hx
    rcases hx with hx | rfl | hx
    · exact hc x (List.mem_of_mem_take hx)
    · exact hw
    · exact hc x (List.mem_of_mem_drop hx)
end Go.Proofs.YtfmhhckkpenldaaGreatDoor
/- Numerals and cut texts: the program's readNum over the library's contracts, the library's Cut at one byte. -/
namespace Go.Proofs.YtfmhhckkpenldaaGreatDoor
open Go.RowKit
theorem gCw : Tryz.prog.globalNamed "loop.example/engrosser/impl.codeWords" = some 0 := by kernel_rfl
theorem gSy : Tryz.prog.globalNamed "strconv.ErrSyntax" = some 2 := by kernel_rfl
theorem gRg : Tryz.prog.globalNamed "strconv.ErrRange" = some 3 := by kernel_rfl
theorem gTb : Tryz.prog.globalNamed "internal/strconv.uint64pow10" = some 4 := by kernel_rfl
/-- the words of the codes, as texts -/
def wFine : ByteArray := ⟨#[102, 105, 110, 101]⟩
def wForm : ByteArray := ⟨#[102, 111, 114, 109]⟩
def wLate : ByteArray := ⟨#[108, 97, 116, 101]⟩
def wFull : ByteArray := ⟨#[102, 117, 108, 108]⟩
def wNone : ByteArray := ⟨#[110, 111, 110, 101]⟩
def wBad : ByteArray := ⟨#[98, 97, 100]⟩
def wOver : ByteArray := ⟨#[111, 118, 101, 114]⟩
def codeArr : Array Value := #[.string wFine, .string wForm, .string wLate, .string wFull, .string wNone, .string wBad, .string wOver]
/-- the variables that a walk reads, as they are laid -/
structure Env (w : World) : Prop where
  cw : w.var? Tryz.prog "loop.example/engrosser/impl.codeWords" = some codeArr
  sy : ∃ tp p, w.var? Tryz.prog "strconv.ErrSyntax" = some #[.iface tp p]
  rg : ∃ tp p, w.var? Tryz.prog "strconv.ErrRange" = some #[.iface tp p]
  tb : Lib.TabIs Tryz.prog w "internal/strconv.uint64pow10" .u64 Lib.pow10Tab
theorem var_lt {P : Program} {w : World} {n : String} {g : Nat} {cs : Array Value} (hg : P.globalNamed n = some g) (h : w.var? P n = some cs) (h0 : 0 < cs.size) : g < w.heap.size := by
  have hc := World.var?_cell hg h 0
  rw [Array.getElem?_eq_getElem h0] at hc
  exact World.block_lt_of_cell? _ _ hc
theorem Env.below {w w' : World} (h : Env w) (hb : Below w.heap.size w w') : Env w' := by
  obtain ⟨t1, p1, h1⟩ := h.sy
  obtain ⟨t2, p2, h2⟩ := h.rg
  exact ⟨var?_below hb gCw (var_lt gCw h.cw (by decide)) h.cw, ⟨t1, p1, var?_below hb gSy (var_lt gSy h1 (by simp)) h1⟩, ⟨t2, p2, var?_below hb gRg (var_lt gRg h2 (by simp)) h2⟩, var?_below hb gTb (var_lt gTb h.tb (by decide)) h.tb⟩
theorem Env.cell {w : World} (h : Env w) (i : Nat) : w.cell? ⟨0, i, none⟩ = codeArr[i]? := World.var?_cell gCw h.cw i
/-- what the library's Cut at a space gives -/
def cutV (s : ByteArray) : Value :=
  let i := Lib.indexByte s.data.toList 32
  if i < 0 then .tuple #[.string s, .string ⟨#[]⟩, .bool false] else .tuple #[.string (s.extract 0 i.toNat), .string (s.extract (i.toNat + 1) s.size), .bool true]
theorem cutV_no {s : ByteArray} (h : Lib.indexByte s.data.toList 32 < 0) : cutV s = .tuple #[.string s, .string ⟨#[]⟩, .bool false] := by unfold cutV; rw [if_pos h]
theorem cutV_at {s : ByteArray} {i : Nat} (h : Lib.indexByte s.data.toList 32 = (i : Int)) : cutV s = .tuple #[.string (s.extract 0 i), .string (s.extract (i + 1) s.size), .bool true] := by
  unfold cutV; rw [if_neg (by omega), h]; simp
set_option maxHeartbeats 400000 in
theorem slCut_any (s : ByteArray) (w : World) (hs : s.size ≤ 1073741824) :
    Calls Tryz.prog 85 #[.string s, .string ⟨#[32]⟩] w fun e w' => e = .returned (cutV s) ∧ Below w.heap.size w w' := by
  have hge := Lib.indexByte_ge s.data.toList 32
  by_cases h : Lib.indexByte s.data.toList 32 < 0
  · have e1 : Lib.indexByte s.data.toList 32 = -1 := by omega
    have HC := Lib.hid (cutV_no h)
    clear h hge
    go_enter Tryz.func85, Tryz.ntmps85
    go_wp2_with (go_at_call 97; refine (Tryz.stringslite_Index_one s 32 _).mono ?_; rintro e w' ⟨rfl, rfl⟩; rw [e1])
    go_ret3
    exact ⟨by rw [HC.out]; simp, Below.refl _ _⟩
  · obtain ⟨i, hi⟩ : ∃ i : Nat, Lib.indexByte s.data.toList 32 = (i : Int) := ⟨(Lib.indexByte s.data.toList 32).toNat, by omega⟩
    have hlt := (indexByte_at hi).1
    have hlt2 : i < s.size := hlt
    have HC := Lib.hid (cutV_at hi)
    go_enter Tryz.func85, Tryz.ntmps85
    go_wp2_with (go_at_call 97; refine (Tryz.stringslite_Index_one s 32 _).mono ?_; rintro e w' ⟨rfl, rfl⟩; rw [hi])
    clear h
    have b1 : (i : Int) ≤ s.size := by omega
    have b2 : (i : Int) + 1 ≤ s.size := by omega
    have hi1 : ((i : Int) + 1).toNat = i + 1 := by omega
    have hwr : IntKind.i64.wrap ((i : Int) + 1) = (i : Int) + 1 := by rw [IntKind.wrap_i64]; omega
    have b3 : (0 : Int) ≤ (i : Int) + 1 := by omega
    refine wp_region_below (by kernel_rfl) (by kernel_rfl) ?_
    iterate 12 (refine wpQuiet_step (fun K hK => ?_); go_simp; first | (apply Exists.intro; refine ⟨fun W hW => ?_, hK _ ?_⟩; (first | rfl | (skip; go_simp; rfl)); clear hK K) | (refine hK _ ?_; clear hK K))
    refine wpQuiet_nil ?_
    intro W hW
    go_wp2
    go_ret3
    exact ⟨by rw [HC.out]; simp, hW⟩
set_option maxHeartbeats 400000 in
theorem cut_any (s : ByteArray) (w : World) (hs : s.size ≤ 1073741824) :
    Calls Tryz.prog 75 #[.string s, .string ⟨#[32]⟩] w fun e w' => e = .returned (cutV s) ∧ Below w.heap.size w w' := by
  have hge := Lib.indexByte_ge s.data.toList 32
  by_cases h : Lib.indexByte s.data.toList 32 < 0
  · have HC := Lib.hid (cutV_no h)
    clear h hge
    go_enter Tryz.func75, Tryz.ntmps75
    go_wp2_with (go_at_call 85; refine (slCut_any s _ hs).mono ?_; rintro e w' ⟨rfl, hb⟩; rw [HC.out])
    go_ret3
    exact ⟨by rw [HC.out]; simp, hb⟩
  · obtain ⟨i, hi⟩ : ∃ i : Nat, Lib.indexByte s.data.toList 32 = (i : Int) := ⟨(Lib.indexByte s.data.toList 32).toNat, by omega⟩
    have HC := Lib.hid (cutV_at hi)
    clear h hge hi
    go_enter Tryz.func75, Tryz.ntmps75
    go_wp2_with (go_at_call 85; refine (slCut_any s _ hs).mono ?_; rintro e w' ⟨rfl, hb⟩; rw [HC.out])
    go_ret3
    exact ⟨by rw [HC.out]; simp, hb⟩
/-! readNum -/
theorem trim_minus (l : List UInt8) : Lib.trimPrefix l [45] = if negL l then l.tail else l := by
  unfold Lib.trimPrefix Lib.hasPrefix negL
  cases l with
  | nil => rfl
  | cons a r =>
    by_cases h : a = 45
    · subst h; simp
    · have h2 : ¬ (45 : UInt8) = a := fun e => h e.symm
      simp [h, h2, List.isPrefixOf]
theorem below_grown_n (B : Nat) (w : World) (q : Nat) (os : Array Obj) (hB : B ≤ w.heap.size) : Below B w (Go.Sort.grow (w.drewN q) os) :=
  ⟨rfl, rfl, rfl, by first | (simp [Go.Sort.grow]; done) | (simp [Go.Sort.grow]; omega), fun i hi => by
    show ((w.drewN q).heap ++ os)[i]? = _
    rw [Array.getElem?_append_left (by show i < w.heap.size; omega)]
    rfl⟩
theorem numL_parse {s : List UInt8} (hl : (Lib.trimPrefix s [45]).length ≤ 17) {v : Int} (hp : Lib.parseIntB 64 s = .ok v) : numL s = decide (Lib.itoa v = s) := by
  have hN := num_iff s
  rw [← trim_minus] at hN
  by_cases hi : Lib.itoa v = s
  · rw [decide_eq_true hi]; exact hN.1 ⟨hl, v, hp, hi⟩
  · rw [decide_eq_false hi, Bool.eq_false_iff]
    intro h
    obtain ⟨_, v', hp', hi'⟩ := hN.2 h
    rw [hp] at hp'; injection hp' with e; subst e
    exact hi hi'
theorem numL_bad {s : List UInt8} (h : ¬ (Lib.trimPrefix s [45]).length ≤ 17 ∨ ∀ v, Lib.parseIntB 64 s ≠ .ok v) : numL s = false := by
  have hN := num_iff s
  rw [← trim_minus] at hN
  rw [Bool.eq_false_iff]
  intro h2
  obtain ⟨g1, v, g2, _⟩ := hN.2 h2
  rcases h with h | h
  · exact h g1
  · exact h v g2
set_option maxHeartbeats 800000 in
theorem readNum_any (s : ByteArray) (w : World) (hs : s.size ≤ 1073741824) (hV : Env w) :
    Calls Tryz.prog 77 #[.string s] w fun e w' => (∃ n, e = .returned (.tuple #[.int .i64 n, .bool (numL s.data.toList)])) ∧ Below w.heap.size w w' := by
  have htl : (⟨(Lib.trimPrefix s.data.toList [45]).toArray⟩ : ByteArray).size = (Lib.trimPrefix s.data.toList [45]).length := by simp [ByteArray.size]
  by_cases hl : (Lib.trimPrefix s.data.toList [45]).length ≤ 17
  · have hd : decide (17 < (((⟨(Lib.trimPrefix s.data.toList [45]).toArray⟩ : ByteArray).size : Nat) : Int)) = false := by
      rw [htl]; simp; omega
    have HTP : ∀ W, Calls Tryz.prog 86 #[.string s, .string ⟨#[45]⟩] W fun e w' => e = .returned (.string ⟨(Lib.trimPrefix s.data.toList [45]).toArray⟩) ∧ w' = W := fun W => Tryz.strings_TrimPrefix s ⟨#[45]⟩ W
    generalize (⟨(Lib.trimPrefix s.data.toList [45]).toArray⟩ : ByteArray) = tp at *
    have HL := Lib.hid hl
    clear hl htl
    rcases hp : Lib.parseIntB 64 s.data.toList with v | _ | _
    ·
      have hvb := Lib.parseIntB_bounds hp
      have hv0 : -9223372036854775808 ≤ v := by have := hvb.1; simp at this; omega
      have hv1 : v ≤ 9223372036854775807 := by have := hvb.2; simp at this; omega
      have HT := Lib.hid (numL_parse HL.out hp)
      have HP : ∀ W, Calls Tryz.prog 87 #[.string s, .int .i64 10, .int .i64 64] W fun e w' => e = .returned (.tuple #[.int .i64 v, .nilIface]) ∧ Below W.heap.size W w' := fun W =>
        (Tryz.strconv_ParseInt_10_at64_ok s (by omega) v hp W).mono fun e w' h => ⟨h.1, by
          rcases h.2 with rfl | ⟨t, rfl⟩
          · exact Below.refl _ _
          · exact Lib.bytesWorld_below _ _ _⟩
      have he : ((⟨(Lib.itoa v).toArray⟩ : ByteArray).toList == s.toList) = decide (Lib.itoa v = s.data.toList) := by
        rw [bytes_beq]
        by_cases h : Lib.itoa v = s.data.toList
        · rw [decide_eq_true h, decide_eq_true]
          cases s; simp at h; simp [h]
        · rw [decide_eq_false h, decide_eq_false]
          intro h2; apply h; rw [← h2]
      have HF : ∀ W, Env W → Calls Tryz.prog 88 #[.int .i64 v, .int .i64 10] W fun e w' => e = .returned (.string ⟨(Lib.itoa v).toArray⟩) ∧ Below W.heap.size W w' := fun W hW =>
        (Tryz.strconv_FormatInt_10 v hv0 hv1 W hW.tb).mono fun e w' h => ⟨h.1, by obtain ⟨k, os, rfl⟩ := h.2; exact below_grown_n _ _ _ _ (Nat.le_refl _)⟩
      generalize (⟨(Lib.itoa v).toArray⟩ : ByteArray) = it at *
      have HV := Lib.hid hV
      clear hvb hp
      cases hi : decide (Lib.itoa v = s.data.toList) with
      | true =>
        rw [hi] at he
        have HT2 := Lib.hid (HT.out.trans hi)
        clear hi HT
        go_enter Tryz.func77, Tryz.ntmps77
        go_wp2_with (first
          | (go_at_call 86; refine (HTP _).mono ?_; rintro e w' ⟨rfl, rfl⟩)
          | (go_at_call 87; refine (HP _).mono ?_; rintro e w' ⟨rfl, hb⟩)
          | (go_at_call 88; refine (HF _ (HV.out.below hb)).mono ?_; rintro e w'' ⟨rfl, hb2⟩))
        go_ret2
        exact ⟨⟨v, by rw [HT2.out]; simp⟩, bthen hb hb2⟩
      | false =>
        rw [hi] at he
        have HT2 := Lib.hid (HT.out.trans hi)
        clear hi HT
        go_enter Tryz.func77, Tryz.ntmps77
        go_wp2_with (first
          | (go_at_call 86; refine (HTP _).mono ?_; rintro e w' ⟨rfl, rfl⟩)
          | (go_at_call 87; refine (HP _).mono ?_; rintro e w' ⟨rfl, hb⟩)
          | (go_at_call 88; refine (HF _ (HV.out.below hb)).mono ?_; rintro e w'' ⟨rfl, hb2⟩))
        go_ret2
        exact ⟨⟨0, by rw [HT2.out]; simp⟩, bthen hb hb2⟩
    ·
      have HT2 := Lib.hid (numL_bad (s := s.data.toList) (.inr (fun v e => by rw [hp] at e; cases e)))
      obtain ⟨tp1, p1, hv1⟩ := hV.sy
      have HP : Calls Tryz.prog 87 #[.string s, .int .i64 10, .int .i64 64] w fun e w' => (∃ n N T, e = .returned (.tuple #[.int .i64 n, .iface T (.pointer (some ⟨N, 0, none⟩))])) ∧ Below w.heap.size w w' :=
        (Tryz.strconv_ParseInt_10_at64_syntax_var s (by omega) hp tp1 p1 w hv1).mono fun e w' h => by obtain ⟨N, h1, _, _, h2⟩ := h; exact ⟨⟨_, N, _, h1⟩, h2⟩
      clear hp hv1 hV
      go_enter Tryz.func77, Tryz.ntmps77
      go_wp2_with (first
        | (go_at_call 86; refine (HTP _).mono ?_; rintro e w' ⟨rfl, rfl⟩)
        | (go_at_call 87; refine HP.mono ?_; rintro e w' ⟨⟨n, N, T, rfl⟩, hb⟩))
      go_ret2
      exact ⟨⟨0, by rw [HT2.out]; simp⟩, hb⟩
    ·
      have HT2 := Lib.hid (numL_bad (s := s.data.toList) (.inr (fun v e => by rw [hp] at e; cases e)))
      obtain ⟨tp1, p1, hv1⟩ := hV.rg
      have HP : Calls Tryz.prog 87 #[.string s, .int .i64 10, .int .i64 64] w fun e w' => (∃ n N T, e = .returned (.tuple #[.int .i64 n, .iface T (.pointer (some ⟨N, 0, none⟩))])) ∧ Below w.heap.size w w' :=
        (Tryz.strconv_ParseInt_10_at64_range_var s (by omega) hp tp1 p1 w hv1).mono fun e w' h => by obtain ⟨N, h1, _, _, h2⟩ := h; exact ⟨⟨_, N, _, h1⟩, h2⟩
      clear hp hv1 hV
      go_enter Tryz.func77, Tryz.ntmps77
      go_wp2_with (first
        | (go_at_call 86; refine (HTP _).mono ?_; rintro e w' ⟨rfl, rfl⟩)
        | (go_at_call 87; refine HP.mono ?_; rintro e w' ⟨⟨n, N, T, rfl⟩, hb⟩))
      go_ret2
      exact ⟨⟨0, by rw [HT2.out]; simp⟩, hb⟩
  · have HT2 := Lib.hid (numL_bad (s := s.data.toList) (.inl hl))
    have hd : decide (17 < (((⟨(Lib.trimPrefix s.data.toList [45]).toArray⟩ : ByteArray).size : Nat) : Int)) = true := by
      rw [htl]; simp; omega
    have HTP : ∀ W, Calls Tryz.prog 86 #[.string s, .string ⟨#[45]⟩] W fun e w' => e = .returned (.string ⟨(Lib.trimPrefix s.data.toList [45]).toArray⟩) ∧ w' = W := fun W => Tryz.strings_TrimPrefix s ⟨#[45]⟩ W
    generalize (⟨(Lib.trimPrefix s.data.toList [45]).toArray⟩ : ByteArray) = tp at *
    clear hl htl
    go_enter Tryz.func77, Tryz.ntmps77
    go_wp2_with (go_at_call 86; refine (HTP _).mono ?_; rintro e w' ⟨rfl, rfl⟩)
    go_ret2
    exact ⟨⟨0, by rw [HT2.out]; simp⟩, Below.refl _ _⟩
end Go.Proofs.YtfmhhckkpenldaaGreatDoor
