/- slices.Sorted(maps.Keys(m)) at the program's two map types: the shelf's contracts laid. A buffer of writes: what its map says; put. The program's writesAt up to the list: the buffer of a time. The keys of a buffer, in order: plain words. The program's buffer as a list, and writesAt. The program's writesAt and PastAt. -/
import Derived.Shelf.SlIter.Nil
import Derived.Shelf.SortM.Plain
import Derived.Shelf.SortM.SortNone
import Derived.Ground.GgzProg
import Derived.Ground.SlgmProg
import Derived.Test.YtpjkcmmmpgncmaaRows
import Derived.Test.YtpjkcmmmpgncmaaPlainV
import Derived.Test.YtpjkcmmmpgncmaaWrA
import Derived.Maps.OwnOps
import Derived.Maps.OwnSet
import Derived.Sort.KeysCollected
import Derived.Deep.Cut
import Derived.Test.YtpjkcmmmpgncmaaSPastAll
import Derived.Test.YtpjkcmmmpgncmaaImplAt
namespace Go.Proofs
open Go.RowKit Go.Maps Go.Sort Go.Shelf
shelf_lay_g SlLaysZ.n7 Ggz 7 at Try 132 as Try.keysB
shelf_lay_g SlLaysZ.n6 Ggz 6 at Try 131 as Try.sortedB
shelf_lay_g SlLaysM.n6 Slgm 6 at Try 155 as Try.sortB
theorem Try.sortsB (m : Nat) : AnyZ.SortsIn Try.prog Try.sortedB_ren Fence.wide m :=
  ⟨fun blk off cap ss W hH hblk hsz => callsIn_wide.2 (AnyM.slices_Sort_string Try.sortB blk off cap ss W hH hblk hsz),
   fun p cap W => callsIn_wide.2 (AnyM.slices_Sort_string_none Try.sortB p cap W)⟩
end Go.Proofs
namespace Go.Proofs.Ytpjkcmmmpgncmaa
open Go.RowKit Go.Maps Go.Sort Go.Shelf
/-- maps.Keys(b) -/
theorem keysB_any (mb : Option Nat) (W : World) : Calls Try.prog 132 #[.map mb] W fun e w' => e = .returned (.func (.func 156) #[] #[.pointer (some ⟨W.heap.size, 0, none⟩)]) ∧ w' = W.alloc (.cells #[.map mb] 140) :=
  (callsIn_wide (n := 5)).1 (AnyZ.keys_in Try.keysB Fence.wide 5 trivial rfl mb W)
set_option maxHeartbeats 1000000 in
/-- slices.Sorted of it -/
theorem sortedB_any {H : Type} (g b nn : Nat) (D0 : DataW H) (R : Value → Option (DataW H × List MemPlace)) (w : World) (hg : g < w.heap.size) (hc : w.cell? ⟨g, 0, none⟩ = some (.map (some b))) (hown : w.ownsMap Try.prog 9 R b nn D0) (hmax : Maps.size D0 ≤ maxLen) (hbytes : Maps.size D0 * 16 ≤ 140737488355328) :
    Calls Try.prog 131 #[.func (.func 156) #[] #[.pointer (some ⟨g, 0, none⟩)]] w fun e w' => ∃ (v : Value) (ss : List (List UInt8)), e = .returned v ∧ ss.Perm (strKeys D0) ∧
      w'.ownsRow w.heap.size 9 1 v ss.length ((ss.mergeSort (fun x y => decide (x ≤ y))).map encStr) ∧ (v = .slice none 0 0 ↔ ss = []) ∧ Below w.heap.size w w' := by
  refine (callsIn_wide (n := 5)).1 ?_
  have hseq : SeqGives Fence.wide 2 Try.prog 156 #[.pointer (some ⟨g, 0, none⟩)] encStr (fun ss => ss.Perm (strKeys D0)) (Maps.size D0) w :=
    AnyZ.keys_gives (ρ := Try.keysB_ren) { Try.keysB with } Fence.wide _ trivial rfl (by omega) g b nn D0 _ hg hc hown
  exact AnyZ.sorted_in Try.sortedB Fence.wide 5 trivial trivial trivial trivial rfl (by omega) (Try.sortsB _) (enters_of Try.func155 (by kernel_rfl) rfl) 156 #[.pointer (some ⟨g, 0, none⟩)] trivial (enters_of Try.func156 (by kernel_rfl) rfl) _ _ hmax hbytes _ hseq
end Go.Proofs.Ytpjkcmmmpgncmaa
namespace Go.Proofs.Ytpjkcmmmpgncmaa
open Go.RowKit Go.Maps Go.ChangeMaps
abbrev DU : Type := DataW Unit
def elemW (v : Value) : Option (DU × List MemPlace) :=
  match v with
  | .agg ⟨[.string k, .int .i64 n, .bool g]⟩ => some (.agg [.lit (.string k.data.toList), .lit (.int .i64 n), .lit (.bool g)], [])
  | _ => none
def datW (w : Wri) : DU := .agg [.lit (.string w.1.data.toList), .lit (.int .i64 w.2.1), .lit (.bool w.2.2)]
theorem elemW_mk (w : Wri) : elemW (.agg #[.string w.1, .int .i64 w.2.1, .bool w.2.2]) = some (datW w, []) := rfl
theorem elemW_inv {v : Value} {d : DU} {ps : List MemPlace} (h : elemW v = some (d, ps)) : ∃ w : Wri, v = .agg #[.string w.1, .int .i64 w.2.1, .bool w.2.2] ∧ d = datW w := by
  unfold elemW at h
  split at h
  · rename_i k n g
    simp only [Option.some.injEq, Prod.mk.injEq] at h
    exact ⟨(k, n, g), rfl, h.1.symm⟩
  · cases h
theorem bytes_ext {a b : ByteArray} (h : a.data.toList = b.data.toList) : a = b := by
  obtain ⟨⟨a⟩⟩ := a; obtain ⟨⟨b⟩⟩ := b; simp at h; rw [h]
theorem datW_inj {a b : Wri} (h : datW a = datW b) : a = b := by
  unfold datW at h
  simp only [DataW.agg.injEq, List.cons.injEq, DataW.lit.injEq, Lit.string.injEq, Lit.int.injEq, Lit.bool.injEq, and_true, true_and] at h
  obtain ⟨k, n, g⟩ := a; obtain ⟨k', n', g'⟩ := b
  simp only at h
  rw [bytes_ext h.1, h.2.1, h.2.2]
def keyL (K : ByteArray) : Lit := .string K.data.toList
theorem keyL_inj {a b : ByteArray} (h : keyL a = keyL b) : a = b := by
  unfold keyL at h; injection h with h; exact bytes_ext h
theorem keyL_key (K : ByteArray) : WideAt.IsKeyLit (keyL K) := by unfold keyL; first | trivial | exact ⟨_, rfl⟩ | simp [WideAt.IsKeyLit]
/-- the map reads as the function f -/
def DF (D : DU) (f : ByteArray → Option Wri) : Prop := IsMap D ∧ ∀ K, has D (keyL K) = (f K).isSome ∧ ∀ w z, f K = some w → D.atKey (keyL K) z = datW w
theorem DF.start : DF (.map []) (fun _ => none) := ⟨⟨[], rfl⟩, fun K => ⟨rfl, fun w z h => by cases h⟩⟩
def updF (f : ByteArray → Option Wri) (x : Wri) : ByteArray → Option Wri := fun K => if K = x.1 then some x else f K
theorem DF.put {D : DU} {f : ByteArray → Option Wri} (h : DF D f) (x : Wri) : DF (D.put (keyL x.1) (datW x)) (updF f x) := by
  refine ⟨h.1.put _ _, fun K => ?_⟩
  unfold updF
  by_cases e : K = x.1
  · subst e
    rw [if_pos rfl]
    exact ⟨has_put_same h.1 (keyL_key _) _, fun w z hw => by injection hw with hw; rw [← hw]; exact atKey_put_same h.1 (keyL_key _) _ z⟩
  · rw [if_neg e]
    have hne : keyL K ≠ keyL x.1 := fun h => e (keyL_inj h)
    exact ⟨by rw [has_put_other hne]; exact (h.2 K).1, fun w z hw => by rw [atKey_put_other hne]; exact (h.2 K).2 w z hw⟩
theorem lawK : Keyed Try.prog 9 := string_keyed Try.underlying9
theorem keyL_of {K : ByteArray} (h : K.size ≤ maxLen) : keyOf Try.prog 9 (.string K) = some (keyL K) := WideMaps.keyOf_string_mk Try.underlying9 h
/-- the box of a buffer -/
def BufW (W : World) (B n : Nat) (f : ByteArray → Option Wri) : Prop := ∃ D, W.ownsMap Try.prog 9 elemW B n D ∧ DF D f
theorem BufW.lt {W : World} {B n : Nat} {f : ByteArray → Option Wri} (h : BufW W B n f) : B < W.heap.size := by obtain ⟨D, h, _⟩ := h; exact h.lt
theorem BufW.kept {W W' : World} {B n : Nat} {f : ByteArray → Option Wri} (h : BufW W B n f) (hb : Below W.heap.size W W') : BufW W' B n f := by
  obtain ⟨D, ⟨es, clock, h1, h2⟩, h3⟩ := h
  exact ⟨D, ⟨es, clock, (hb.block B (Array.getElem?_eq_some_iff.1 h1).1).trans h1, h2⟩, h3⟩
theorem BufW.made (W : World) : BufW (W.alloc (.map #[] 0)) W.heap.size 0 (fun _ => none) := ⟨_, World.ownsMap_made W _ _ _, DF.start⟩
set_option maxHeartbeats 1000000 in
theorem put_any (B n : Nat) (f : ByteArray → Option Wri) (x : Wri) (W : World) (hx : x.1.size ≤ maxLen) (hn : n < 1048576) (hB : BufW W B n f) :
    Calls Try.prog 86 #[.map (some B), .agg #[.string x.1, .int .i64 x.2.1, .bool x.2.2]] W fun e W' => e = .returned (.tuple #[]) ∧ BufW W' B (n + 1) (updF f x) ∧ W.grownBy W' (some B) := by
  obtain ⟨D, hown0, hD⟩ := hB
  have hown := hown0.alloc (.cells #[.string x.1, .int .i64 x.2.1, .bool x.2.2] 46)
  have hg0 := World.grownBy_alloc W (.cells #[.string x.1, .int .i64 x.2.1, .bool x.2.2] 46) (some B)
  have HD := Lib.hid hD
  clear hown0 hD
  go_enter Try.func86, Try.ntmps86
  go_wp2_with (at_mapUpdate; refine wpList_mapUpdate_own _ rfl _ _ _ 140 rfl 9 46 lawK Try.underlying140 elemW B n D rfl hown (by unfold maxLen; omega) _ _ (keyL x.1) rfl rfl (keyL_of hx) (datW x) [] (elemW_mk x) ?_; intro w1 hown1 hgrow1)
  go_end0
  exact ⟨rfl, ⟨_, hown1, HD.out.put x⟩, hg0.trans hgrow1⟩
end Go.Proofs.Ytpjkcmmmpgncmaa
namespace Go.Proofs.Ytpjkcmmmpgncmaa
open Go.RowKit Go.Maps Go.ChangeMaps
theorem zeroW (w : World) : (zeroValue 46).run Try.prog w = .ok (.agg #[.string ⟨#[]⟩, .int .i64 0, .bool false]) w := by kernel_rfl
theorem lookOk_buf (w : World) {ops : Array Oper} {rest : List Oper} {o : Oper} {a : Act} {Q : Exit → Act → World → Prop}
    (hg : o.guard = none) (m x : Operand) (hop : o.op = Op.lookup 140 m x true) (B n : Nat) (f : ByteArray → Option Wri)
    (hm : a.eval m = .map (some B)) (hB : BufW w B n f) (K : ByteArray) (hx : a.eval x = .string K) (hk : K.size ≤ maxLen) (b : Bool) (hb : (f K).isSome = b)
    (hK : ∀ y : Wri, wpList Try.prog ops Q rest (a.put o.dst (.tuple #[.agg #[.string y.1, .int .i64 y.2.1, .bool y.2.2], .bool b])) w) :
    wpList Try.prog ops Q (o :: rest) a w := by
  obtain ⟨D, hown, hD⟩ := hB
  refine wpList_lookup_own_ok w hg m x 140 hop 9 46 lawK Try.underlying140 elemW (zeroW w) (datW (⟨#[]⟩, 0, false)) [] (elemW_mk (⟨#[]⟩, 0, false)) B n D hm hown _ _ hx (keyL_of hk) (fun v ps hv => ?_)
  obtain ⟨y, rfl, _⟩ := elemW_inv hv
  rw [(hD.2 K).1, hb]
  exact hK y
theorem look_buf (w : World) {ops : Array Oper} {rest : List Oper} {o : Oper} {a : Act} {Q : Exit → Act → World → Prop}
    (hg : o.guard = none) (m x : Operand) (hop : o.op = Op.lookup 140 m x false) (B n : Nat) (f : ByteArray → Option Wri)
    (hm : a.eval m = .map (some B)) (hB : BufW w B n f) (K : ByteArray) (hx : a.eval x = .string K) (hk : K.size ≤ maxLen) (y : Wri) (hy : f K = some y)
    (hK : wpList Try.prog ops Q rest (a.put o.dst (.agg #[.string y.1, .int .i64 y.2.1, .bool y.2.2])) w) :
    wpList Try.prog ops Q (o :: rest) a w := by
  obtain ⟨D, hown, hD⟩ := hB
  refine wpList_plain hg fun K' hK' => ?_
  obtain ⟨v, ps, hrun, hv⟩ := hown.lookup (t := 140) (e := 46) lawK Try.underlying140 (zeroW w) (elemW_mk (⟨#[]⟩, 0, false)) (keyL_of hk)
  obtain ⟨z, rfl, hz⟩ := elemW_inv hv
  rw [(hD.2 K).2 y _ hy] at hz
  obtain rfl := datW_inj hz
  unfold Oper.wp
  simp [execOp, hop, hm, hx, hrun, Result.andThen]
  exact hK' _ _ hK
theorem len_buf (w : World) {ops : Array Oper} {rest : List Oper} {o : Oper} {a : Act} {Q : Exit → Act → World → Prop}
    (hg : o.guard = none) (m : Operand) (hop : o.op = Op.call { callee := Callee.builtin Builtin.len, args := #[m], argTypes := #[140] }) (B n : Nat) (f : ByteArray → Option Wri)
    (hm : a.eval m = .map (some B)) (hB : BufW w B n f)
    (hK : ∀ c : Nat, c ≤ n → wpList Try.prog ops Q rest (a.put o.dst (.int .i64 (c : Int))) w) :
    wpList Try.prog ops Q (o :: rest) a w := by
  obtain ⟨D, hown, hD⟩ := hB
  exact wpList_len_own w hg m 140 hop 9 46 Try.underlying140 elemW B n D hm hown (hK _ hown.size_le)
theorem BufW.mono {W : World} {B n m : Nat} {f : ByteArray → Option Wri} (h : BufW W B n f) (hn : n ≤ m) : BufW W B m f := by
  obtain ⟨D, h1, h2⟩ := h; exact ⟨D, h1.mono hn, h2⟩
def stepA (t : Int) (f : ByteArray → Option Wri) (x : Ver) : ByteArray → Option Wri :=
  if x.2.2.1 = t then updF f (x.1, x.2.1, false) else if x.2.2.2 = t then (if (f x.1).isSome = true then f else updF f (x.1, 0, true)) else f
def fA (t : Int) (l : List Ver) : ByteArray → Option Wri := l.foldl (stepA t) (fun _ => none)
theorem fA_take {t : Int} {l : List Ver} {k : Nat} (h : k < l.length) : fA t (l.take (k + 1)) = stepA t (fA t (l.take k)) l[k] := by
  unfold fA; rw [List.take_succ_eq_append_getElem h, List.foldl_append]; rfl
/-- what stands while the buffer is filled -/
def BA (w : World) (now : Int) (A : Option Addr) (l : List Ver) (c k : Nat) (f : ByteArray → Option Wri) (W : World) : Prop :=
  Blk W w.heap.size 32 #[.int .i64 now, .slice A l.length c] ∧ BufW W (w.heap.size + 1) k f ∧ Below w.heap.size w W
theorem BA.below {w : World} {now : Int} {A : Option Addr} {l : List Ver} {c k : Nat} {f : ByteArray → Option Wri} {W W' : World} (h : BA w now A l c k f W) (hb : Below W.heap.size W W') : BA w now A l c k f W' := ⟨h.1.kept hb, h.2.1.kept hb, bthen h.2.2 hb⟩
theorem BA.put {w : World} {now : Int} {A : Option Addr} {l : List Ver} {c k m : Nat} {f f' : ByteArray → Option Wri} {W W' : World} (h : BA w now A l c k f W) (hg : W.grownBy W' (some (w.heap.size + 1))) (hB : BufW W' (w.heap.size + 1) m f') : BA w now A l c m f' W' :=
  ⟨h.1.grown hg (by simp), hB, below_own h.2.2 hg h.2.2.size (fun j hj => by injection hj with hj; omega)⟩
end Go.Proofs.Ytpjkcmmmpgncmaa
namespace Go.Proofs.Ytpjkcmmmpgncmaa
open Go.RowKit Go.Maps Go.ChangeMaps Go.Sort
theorem bl_lt : ∀ (a b : List UInt8), Op.bytesLess a b = true ↔ a < b
  | [], [] => by simp [bl_nil]
  | [], b :: bs => by simp [Op.bytesLess]
  | a :: ar, [] => by simp [bl_nil]
  | a :: ar, b :: br => by
    rw [bl_cons, List.cons_lt_cons_iff, bl_lt ar br, UInt8.lt_iff_toNat_lt]
theorem kLt_lt {a b : ByteArray} : kLt a b ↔ a.data.toList < b.data.toList := by
  unfold kLt; rw [bl_lt, data_toList, data_toList]
theorem mk_bytes (x : List UInt8) : (⟨x.toArray⟩ : ByteArray).data.toList = x := rfl
/-- the writes that a buffer holds, in order -/
structure IsList (f : ByteArray → Option Wri) (T : List Wri) : Prop where
  asc : T.Pairwise (fun a b => kLt a.1 b.1)
  mem : ∀ w, w ∈ T → f w.1 = some w
  all : ∀ K w, f K = some w → w.1 = K ∧ w ∈ T
theorem keys_sorted {W : World} {B n : Nat} {D : DU} {f : ByteArray → Option Wri} {T : List Wri} {ss : List (List UInt8)} (hown : W.ownsMap Try.prog 9 elemW B n D) (hD : DF D f) (hT : IsList f T) (hp : ss.Perm (strKeys D)) :
    ss.mergeSort (fun x y => decide (x ≤ y)) = T.map (fun w => w.1.data.toList) := by
  obtain ⟨es, hDe, hpw, _⟩ := hown.entries lawK
  obtain ⟨es', hD', hko⟩ := hown.keysOf
  obtain rfl : es = es' := by rw [hDe] at hD'; simpa using hD'
  have hasc : (T.map (fun w => w.1.data.toList)).Pairwise (fun a b => a < b) := List.pairwise_map.2 (hT.asc.imp fun h => kLt_lt.1 h)
  have h1 : (T.map (fun w => w.1.data.toList)).Perm (strKeys D) := by
    subst hDe
    refine perm_strKeys hpw (fun p hp => by obtain ⟨v, hv⟩ := hko p hp; obtain ⟨x, _, hx, _⟩ := Maps.keyOf_str Try.underlying9 hv; exact ⟨x, hx⟩) (hasc.imp fun h e => by subst e; exact List.lt_irrefl _ h) (fun x => ?_)
    have h2 := (hD.2 ⟨x.toArray⟩).1
    unfold keyL at h2
    rw [mk_bytes] at h2
    rw [h2, Option.isSome_iff_exists, List.mem_map]
    constructor
    · rintro ⟨w, hw, rfl⟩
      exact ⟨w, hT.mem w hw⟩
    · rintro ⟨w, hw⟩
      obtain ⟨h3, h4⟩ := hT.all _ _ hw
      exact ⟨w, h4, by rw [h3]⟩
  have h3 := mergeSort_of_perm (hp.trans h1.symm)
  show ss.mergeSort leB = _
  rw [h3]
  exact List.mergeSort_of_pairwise (hasc.imp fun h => by simpa [leB] using List.le_of_lt h)
def encK (w : Wri) : List Value := [.string w.1]
theorem encK_len (w : Wri) : (encK w).length = 1 := rfl
theorem keys_enc (T : List Wri) : (T.map (fun w => w.1.data.toList)).map encStr = T.flatMap encK := by
  induction T with
  | nil => rfl
  | cons w T ih =>
    rw [List.map_cons, List.map_cons, List.flatMap_cons, ih]
    rfl
/-! the buffer of a time holds what the reference tells -/
theorem fA_inv {t : Int} : ∀ (l : List Ver) (f : ByteArray → Option Wri), (∀ K w, f K = some w → w.1 = K) → ∀ K w, l.foldl (stepA t) f K = some w → w.1 = K := by
  intro l
  induction l with
  | nil => intro f h; exact h
  | cons x l ih =>
    intro f h
    rw [List.foldl_cons]
    apply ih
    intro K w hw
    have hu : ∀ y : Wri, updF f y K = some w → w.1 = K := by
      intro y hy
      unfold updF at hy
      split at hy
      · rename_i e; injection hy with hy; rw [← hy, e]
      · exact h K w hy
    unfold stepA at hw
    split at hw
    · exact hu _ hw
    · split at hw
      · split at hw
        · exact h K w hw
        · exact hu _ hw
      · exact h K w hw
/-- what a buffer says of a key once some versions are through -/
theorem fA_val {t : Int} (K : ByteArray) : ∀ (l : List Ver), l.Pairwise PairV → (∀ x ∈ l, 1 ≤ x.2.2.1 ∧ (x.2.2.2 = 0 ∨ x.2.2.1 < x.2.2.2)) → 1 ≤ t →
    fA t l K = match l.find? (fun x => decide (x.1 = K) && decide (x.2.2.1 = t)) with
      | some x => some (x.1, x.2.1, false)
      | none => if l.any (fun x => decide (x.1 = K) && decide (x.2.2.2 = t)) = true then some (K, 0, true) else none := by
  intro l hp hv ht
  have key : ∀ k, k ≤ l.length → fA t (l.take k) K = match (l.take k).find? (fun x => decide (x.1 = K) && decide (x.2.2.1 = t)) with
      | some x => some (x.1, x.2.1, false)
      | none => if (l.take k).any (fun x => decide (x.1 = K) && decide (x.2.2.2 = t)) = true then some (K, 0, true) else none := by
    intro k
    induction k with
    | zero => intro _; simp [fA]
    | succ k ih =>
      intro hk
      have hlt : k < l.length := by omega
      have ih := ih (by omega)
      rw [fA_take hlt, List.take_succ_eq_append_getElem hlt, List.find?_append, List.any_append]
      have hpk : ∀ y ∈ l.take k, PairV y l[k] := by
        intro y hy
        obtain ⟨i, hi⟩ := List.getElem?_of_mem hy
        have hik : i < k := by have := (List.getElem?_eq_some_iff.1 hi).1; rw [List.length_take] at this; omega
        rw [List.getElem?_take_of_lt hik] at hi
        obtain ⟨h1, rfl⟩ := List.getElem?_eq_some_iff.1 hi
        exact (List.pairwise_iff_getElem.1 hp) i k h1 hlt hik
      have hvk := hv l[k] (List.getElem_mem hlt)
      have hvy : ∀ y ∈ l.take k, 1 ≤ y.2.2.1 ∧ (y.2.2.2 = 0 ∨ y.2.2.1 < y.2.2.2) := fun y hy => hv y (List.mem_of_mem_take hy)
      generalize l[k] = x at *
      generalize l.take k = m at *
      by_cases hK : x.1 = K
      · -- this key
        by_cases hf : x.2.2.1 = t
        · have hno : m.find? (fun x => decide (x.1 = K) && decide (x.2.2.1 = t)) = none := by
            rw [List.find?_eq_none]
            intro y hy h
            simp only [Bool.and_eq_true, decide_eq_true_eq] at h
            have hvy1 := hvy y hy
            rcases hpk y hy with h1 | ⟨h1, h2, h3⟩
            · rw [h.1, hK] at h1; exact kLt_irrefl _ h1
            · omega
          rw [hno]
          unfold stepA
          rw [if_pos hf]
          unfold updF
          rw [if_pos hK.symm]
          simp [hK, hf]
        · have hfx : [x].find? (fun x => decide (x.1 = K) && decide (x.2.2.1 = t)) = none := by simp [hf]
          rw [hfx, Option.or_none]
          unfold stepA
          rw [if_neg hf]
          by_cases hto : x.2.2.2 = t
          · rw [if_pos hto, hK]
            cases hm : m.find? (fun x => decide (x.1 = K) && decide (x.2.2.1 = t)) with
            | some y =>
              rw [hm] at ih
              simp only at ih
              rw [if_pos (show (fA t m K).isSome = true by rw [ih]; rfl)]
              exact ih
            | none =>
              rw [hm] at ih
              simp only at ih
              have hany : (m.any (fun x => decide (x.1 = K) && decide (x.2.2.2 = t)) || [x].any (fun x => decide (x.1 = K) && decide (x.2.2.2 = t))) = true := by simp [hK, hto]
              rw [hany]
              show _ = some (K, 0, true)
              by_cases ha : m.any (fun x => decide (x.1 = K) && decide (x.2.2.2 = t)) = true
              · rw [if_pos ha] at ih
                rw [if_pos (show (fA t m K).isSome = true by rw [ih]; rfl)]
                exact ih
              · rw [if_neg ha] at ih
                rw [if_neg (show ¬ (fA t m K).isSome = true by rw [ih]; simp)]
                exact if_pos rfl
          · rw [if_neg hto, ih]
            have : (m.any (fun x => decide (x.1 = K) && decide (x.2.2.2 = t)) || [x].any (fun x => decide (x.1 = K) && decide (x.2.2.2 = t))) = m.any (fun x => decide (x.1 = K) && decide (x.2.2.2 = t)) := by simp [hto]
            rw [this]
      · have hfx : [x].find? (fun x => decide (x.1 = K) && decide (x.2.2.1 = t)) = none := by simp [hK]
        have hax : (m.any (fun x => decide (x.1 = K) && decide (x.2.2.2 = t)) || [x].any (fun x => decide (x.1 = K) && decide (x.2.2.2 = t))) = m.any (fun x => decide (x.1 = K) && decide (x.2.2.2 = t)) := by simp [hK]
        rw [hfx, Option.or_none, hax, ← ih]
        have hu : ∀ (f : ByteArray → Option Wri) (y : Wri), y.1 = x.1 → updF f y K = f K := by
          intro f y hy
          unfold updF
          rw [if_neg (fun e => hK (by rw [← hy, e]))]
        unfold stepA
        split
        · exact hu _ _ rfl
        · split
          · split
            · rfl
            · exact hu _ _ rfl
          · rfl
  have := key l.length (Nat.le_refl _)
  rw [List.take_length] at this
  exact this
theorem isList_l8 {now : Int} {l : List Ver} (h : versB now l = true) {t : Int} (ht : 1 ≤ t) : IsList (fA t l) (l8L l t) := by
  have hP := versB_out h
  have hpw := vers_pairwise hP
  have hv : ∀ x ∈ l, 1 ≤ x.2.2.1 ∧ (x.2.2.2 = 0 ∨ x.2.2.1 < x.2.2.2) := fun x hx => by have := verB_iff.1 (versP_mem hP hx); omega
  have hval := fun K => fA_val (t := t) K l hpw hv ht
  have hfind : ∀ (x : Ver), x ∈ l → x.2.2.1 = t → l.find? (fun y => decide (y.1 = x.1) && decide (y.2.2.1 = t)) = some x := by
    intro x hx ht2
    cases hf : l.find? (fun y => decide (y.1 = x.1) && decide (y.2.2.1 = t)) with
    | none =>
      have := List.find?_eq_none.1 hf x hx
      simp [ht2] at this
    | some y =>
      have h1 := List.find?_some hf
      simp only [Bool.and_eq_true, decide_eq_true_eq] at h1
      have h2 := List.mem_of_find?_eq_some hf
      obtain ⟨i, hi⟩ := List.getElem?_of_mem hx
      obtain ⟨j, hj⟩ := List.getElem?_of_mem h2
      rcases Nat.lt_trichotomy i j with e | e | e
      · rcases vers_pairs hP j i _ _ e hi hj with h3 | ⟨_, h4, h5⟩
        · rw [h1.1] at h3; exact absurd h3 (kLt_irrefl _)
        · have := hv x hx; omega
      · subst e; rw [hi] at hj; injection hj with hj; rw [hj]
      · rcases vers_pairs hP i j _ _ e hj hi with h3 | ⟨_, h4, h5⟩
        · rw [h1.1] at h3; exact absurd h3 (kLt_irrefl _)
        · have := hv y h2; omega
  have hnone : ∀ (K : ByteArray), begB l K t = false → l.find? (fun y => decide (y.1 = K) && decide (y.2.2.1 = t)) = none := by
    intro K hb
    rw [List.find?_eq_none]
    intro y hy h
    simp only [Bool.and_eq_true, decide_eq_true_eq] at h
    have := begB_hit hy h.1 h.2
    rw [hb] at this; cases this
  refine ⟨l8L_asc hP t, ?_, ?_⟩
  · intro w hw
    rw [hval]
    rcases l8L_mem.1 hw with ⟨x, hx, e, rfl⟩ | ⟨x, hx, e, hb, rfl⟩
    · rw [hfind x hx e]
    · rw [hnone x.1 hb]
      simp only
      rw [if_pos (by rw [List.any_eq_true]; exact ⟨x, hx, by simp [e]⟩)]
  · intro K w hw
    refine ⟨fA_inv l _ (fun K w h => by cases h) K w hw, ?_⟩
    rw [hval] at hw
    cases hf : l.find? (fun x => decide (x.1 = K) && decide (x.2.2.1 = t)) with
    | some x =>
      rw [hf] at hw
      simp only [Option.some.injEq] at hw
      have h1 := List.find?_some hf
      simp only [Bool.and_eq_true, decide_eq_true_eq] at h1
      exact l8L_mem.2 (.inl ⟨x, List.mem_of_find?_eq_some hf, h1.2, hw.symm⟩)
    | none =>
      rw [hf] at hw
      simp only at hw
      split at hw
      · rename_i ha
        injection hw with hw
        obtain ⟨x, hx, h1⟩ := List.any_eq_true.1 ha
        simp only [Bool.and_eq_true, decide_eq_true_eq] at h1
        refine l8L_mem.2 (.inr ⟨x, hx, h1.2, ?_, by rw [← hw, h1.1]⟩)
        cases hb : begB l x.1 t with
        | false => rfl
        | true =>
          obtain ⟨y, hy, h3, h4⟩ := begB_iff.1 hb
          have := List.find?_eq_none.1 hf y hy
          simp [h3, h1.1, h4] at this
      · cases hw
end Go.Proofs.Ytpjkcmmmpgncmaa
namespace Go.Proofs.Ytpjkcmmmpgncmaa
open Go.RowKit Go.Maps Go.ChangeMaps Go.Sort
/-- what stands while the list is made -/
def LBw (w : World) (B n : Nat) (f : ByteArray → Option Wri) (Av : Option Addr) (cv : Nat) (T : List Wri) (A5 : Option Addr) (m : List Wri) (c5 : Nat) (W : World) : Prop :=
  OwnW W w.heap.size (.slice A5 m.length c5) m ∧ W.ownsRow w.heap.size 9 1 (.slice Av T.length cv) T.length (T.flatMap encK) ∧ BufW W B n f ∧ Below w.heap.size w W
theorem LBw.below {w : World} {B n : Nat} {f : ByteArray → Option Wri} {Av : Option Addr} {cv : Nat} {T : List Wri} {A5 : Option Addr} {m : List Wri} {c5 : Nat} {W W' : World} (h : LBw w B n f Av cv T A5 m c5 W) (hb : Below W.heap.size W W') : LBw w B n f Av cv T A5 m c5 W' := ⟨h.1.below hb, own_kept h.2.1 hb, h.2.2.1.kept hb, bthen h.2.2.2 hb⟩
theorem BufW.grown {W W' : World} {B n : Nat} {f : ByteArray → Option Wri} {row : Option Nat} (h : BufW W B n f) (hg : W.grownBy W' row) (hne : some B ≠ row) : BufW W' B n f := by
  obtain ⟨D, h1, h2⟩ := h; exact ⟨D, h1.kept hg hne, h2⟩
theorem LBw.app {w : World} {B n : Nat} {f : ByteArray → Option Wri} {Av : Option Addr} {cv : Nat} {T : List Wri} {A5 : Option Addr} {m : List Wri} {c5 : Nat} {W W' : World} {A' : Option Addr} {m2 : List Wri} {c' : Nat} (h : LBw w B n f Av cv T A5 m c5 W) (hg : W.grownBy W' (Value.slice A5 m.length c5).ownBlock) (ho : OwnW W' w.heap.size (.slice A' m2.length c') m2) (hBw : B < w.heap.size) : LBw w B n f Av cv T A' m2 c' W' := by
  obtain ⟨h1, h2, h3, h4⟩ := h
  exact ⟨ho, own_farW h2 hg (own_apart h2 h1 (by decide)), h3.grown hg (fun e => by have := (h1.lt _ e.symm).1; omega), below_own h4 hg h4.size (fun j hj => (h1.lt j hj).1)⟩
set_option maxRecDepth 100000 in
set_option maxHeartbeats 3000000 in
theorem list_any (B n : Nat) (f : ByteArray → Option Wri) (T : List Wri) (w : World) (hn : n ≤ 1048576) (hB : BufW w B n f) (hT : IsList f T) (hTk : ∀ x ∈ T, x.1.size ≤ maxLen) (hTl : T.length ≤ 1048576) :
    Calls Try.prog 87 #[.map (some B)] w fun e w' => ∃ v, e = .returned v ∧ OwnW w' w.heap.size v T ∧ Below w.heap.size w w' := by
  obtain ⟨i0, hi, hz0, hz1, hz2⟩ := info_parts infoWri
  have HI := Lib.hid (⟨hi, hz0, hz1, hz2⟩ : _ ∧ _ ∧ _ ∧ _)
  clear hi hz0 hz1 hz2
  have HB := Lib.hid hB
  have HT := Lib.hid hT
  have HTK := Lib.hid hTk
  have hBw := hB.lt
  clear hB hT hTk
  go_enter Try.func87, Try.ntmps87
  go_wp2_with (first
    | (at_len; refine len_buf w rfl _ rfl B n f rfl HB.out ?_; intro cc hcc)
    | (at_make; refine wpList_make_own _ rfl _ _ 41 rfl w.heap.size 46 i0 _ 3 Try.underlying41 HI.out.1 HI.out.2.1 HI.out.2.2.1 .i64 .i64 _ cc rfl rfl rfl (by rw [HI.out.2.2.2]; omega) (by unfold maxLen; omega) (Nat.le_refl _) ?_; intro w1 hown0 hgrow0))
  have hb1 : Below w.heap.size w w1 := below_own (Below.refl _ _) hgrow0 (Nat.le_refl _) (fun j hj => by cases hj)
  have hba := (Below.refl w1.heap.size w1).alloc (Nat.le_refl _) (.cells #[.map (some B)] 140)
  have hb2 := bthen hb1 hba
  have HO := Lib.hid (OwnW.below (show OwnW w1 w.heap.size (.slice (some ⟨w.heap.size, 0, none⟩) 0 cc) [] from hown0) hba)
  have HB2 := Lib.hid (HB.out.kept hb2)
  have hc2 : (w1.alloc (.cells #[.map (some B)] 140)).cell? ⟨w1.heap.size, 0, none⟩ = some (.map (some B)) := (Blk.new w1 140 #[.map (some B)]).cell 0
  have hl2 : w1.heap.size < (w1.alloc (.cells #[.map (some B)] 140)).heap.size := by simp
  have hs1 := hb1.size
  clear hown0 hgrow0 hba hb1
  refine (keysB_any (some B) w1).mono ?_
  rintro e w2 ⟨rfl, rfl⟩
  have HS : Hid (Calls Try.prog 131 #[.func (.func 156) #[] #[.pointer (some ⟨w1.heap.size, 0, none⟩)]] (w1.alloc (.cells #[.map (some B)] 140)) fun e w' => ∃ v, e = .returned v ∧ w'.ownsRow (w1.alloc (.cells #[.map (some B)] 140)).heap.size 9 1 v T.length (T.flatMap encK) ∧ Below (w1.alloc (.cells #[.map (some B)] 140)).heap.size (w1.alloc (.cells #[.map (some B)] 140)) w') := by
    obtain ⟨D, hown, hD⟩ := HB2.out
    have hsz := hown.size_le
    refine Lib.hid ((sortedB_any w1.heap.size B n D elemW _ hl2 hc2 hown (by unfold maxLen; omega) (by omega)).mono ?_)
    rintro e w' ⟨v, ss, rfl, hp, hrow, _, hb⟩
    have hk := keys_sorted hown hD HT.out hp
    have hlen : ss.length = T.length := by
      have := congrArg List.length hk
      simpa using this
    rw [hk, keys_enc, hlen] at hrow
    exact ⟨v, rfl, hrow, hb⟩
  clear hc2 hl2
  go_wp2_with fail
  generalize w1.alloc (.cells #[.map (some B)] 140) = w2 at *
  refine HS.out.mono ?_
  rintro e w3 ⟨v, rfl, hrow, hb3⟩
  have hs2 := hb2.size
  have hrow2 := Go.Joins.ownsRow_le hrow hs2
  obtain ⟨Av, cv, rfl, _, _, hSv⟩ := Sl.of_own encK_len hrow2
  have HL := Lib.hid (show LBw w B n f Av cv T (some ⟨w.heap.size, 0, none⟩) [] cc w3 from ⟨HO.out.below hb3, hrow2, HB2.out.kept hb3, bthen hb2 hb3⟩)
  clear HS HO HB2 HB hrow hrow2 hb2 hb3 hSv hs1 hs2
  go_wp2
  go_loopg [3, 13] T.length (fun kx s3 s13 W => ∃ (k : Nat) (A5 : Option Addr) (m : List Wri) (c5 : Nat), k ≤ T.length ∧ kx = T.length - k ∧ s3 = .slice A5 m.length c5 ∧ s13 = .int .i64 k ∧ m.length = k ∧ Hid (m = T.take k) ∧ Hid (LBw w B n f Av cv T A5 m c5 W))
  case atStart => exact ⟨0, _, [], cc, Nat.zero_le _, rfl, rfl, rfl, rfl, Lib.hid rfl, HL⟩
  case round =>
    clear HL
    obtain ⟨k, A5, m, c5, hk, hg, rfl, rfl, hmk, HM, HL⟩ := hrel
    have HMK := Lib.hid hmk
    have hmT : m.length ≤ 1048576 := by omega
    clear hmk
    by_cases hlt : k < T.length
    · obtain ⟨A', c', e', _, _, hSv⟩ := Sl.of_own encK_len HL.out.2.1
      injection e' with e1 e2 e3
      subst e1; subst e3
      obtain ⟨b, o, rfl, hbl, c0⟩ := Sl.at1 (f := fun w : Wri => Value.string w.1) hSv hlt
      clear e2 hSv
      have HTK2 := Lib.hid (HTK.out _ (List.getElem_mem hlt))
      have HTM := Lib.hid (HT.out.mem _ (List.getElem_mem hlt))
      have HTT := Lib.hid (List.take_succ_eq_append_getElem hlt)
      generalize T[k] = x at *
      obtain ⟨xk, xn, xg⟩ := x
      simp only at c0 HTK2 HTM
      have hki : (k : Int) < (T.length : Int) := by omega
      have hki0 : (0 : Int) ≤ (k : Int) := by omega
      have hba := (Below.refl wr.heap.size wr).alloc (Nat.le_refl _) (.cells #[.string xk, .int .i64 xn, .bool xg] 46)
      have HL2 := Lib.hid (HL.out.below hba)
      have HXS := Lib.hid (slw_one (x := (xk, xn, xg)) (Blk.new wr 46 #[.string xk, .int .i64 xn, .bool xg]))
      have H63 := Lib.hid (show m.length + [((xk, xn, xg) : Wri)].length ≤ maxLen by unfold maxLen; simp; omega)
      have HBY := Lib.hid (show (m.length + [((xk, xn, xg) : Wri)].length) * 32 ≤ 140737488355328 by simp; omega)
      have HBS := Lib.hid (show w.heap.size ≤ (wr.alloc (.cells #[.string xk, .int .i64 xn, .bool xg] 46)).heap.size by have := HL.out.2.2.2.size; simp; omega)
      clear hba
      go_wp2_with (first
        | (at_lookup; refine look_buf wr rfl _ _ rfl B n f rfl HL.out.2.2.1 xk rfl HTK2.out (xk, xn, xg) HTM.out ?_)
        | (at_builtin; refine wpList_append_slM (enc := encWri) rfl (.tmp 17) (.tmp 21) 41 rfl w.heap.size 46 i0 _ 3 32 Try.underlying41 HI.out.1 HI.out.2.1 HI.out.2.2.1 HI.out.2.2.2 rfl (by decide) (.slice A5 m.length c5) m.length (m.flatMap encWri) rfl HL2.out.1 encWri_len (some ⟨wr.heap.size, 0, none⟩) [((xk, xn, xg) : Wri)] 1 1 rfl (by first | rfl | simp [Act.eval]) HXS.out (encWri_one _) H63.out HBY.out HBS.out ?_; intro v' w4 hown hgr _; obtain ⟨m2, hm2, ho⟩ : ∃ m2, m2 = m ++ [((xk, xn, xg) : Wri)] ∧ OwnW w4 w.heap.size v' m2 := ⟨_, rfl, ownW_app hown⟩; obtain ⟨A6, c6, rfl, _, _, hS6⟩ := ho.sl; have HL3 := Lib.hid (HL2.out.app hgr ho hBw); have HML := Lib.hid (show m2.length = m.length + 1 from (by rw [hm2]; simp)); have HM2 := Lib.hid (show m2 = T.take (k + 1) from (by rw [hm2, HM.out, HTT.out])); clear hown hgr ho hm2 hS6))
      go_roundg (T.length - (k + 1))
      case measure => omega
      case rel => exact ⟨k + 1, A6, m2, c6, by omega, by omega, rfl, by go_num, by have := HMK.out; have := HML.out; omega, HM2, HL3⟩
    · obtain rfl : k = T.length := by omega
      have HMT : Hid (m = T) := Lib.hid (by rw [HM.out, List.take_length])
      go_wp2
      go_ret
      exact ⟨_, rfl, by rw [← HMT.out]; exact HL.out.1, HL.out.2.2.2⟩
end Go.Proofs.Ytpjkcmmmpgncmaa
namespace Go.Proofs.Ytpjkcmmmpgncmaa
open Go.RowKit Go.Maps Go.ChangeMaps
set_option maxRecDepth 100000 in
set_option maxHeartbeats 3000000 in
theorem writesAt_any (A : Option Addr) (l : List Ver) (c : Nat) (now t : Int) (w : World) (hf : FitsV l) (hv : versB now l = true) (ht : 1 ≤ t) (hS : Sl encVer 4 w A l) :
    Calls Try.prog 50 #[.agg #[.int .i64 now, .slice A l.length c], .int .i64 t] w fun e w' => ∃ v, e = .returned v ∧ OwnW w' w.heap.size v (l8L l t) ∧ Below w.heap.size w w' := by
  have hl60 := (versB_out hv).1.2.2
  have hb0 := ((Below.refl w.heap.size w).alloc (Nat.le_refl _) (.cells #[.int .i64 now, .slice A l.length c] 32)).alloc (by simp) (.map #[] 0)
  have hB0 := (Blk.new w 32 #[.int .i64 now, .slice A l.length c]).alloc (.map #[] 0)
  have hM0 := BufW.made (w.alloc (.cells #[.int .i64 now, .slice A l.length c] 32))
  rw [World.size_alloc] at hM0
  have HST := Lib.hid (show BA w now A l c 0 (fA t (l.take 0)) ((w.alloc (.cells #[.int .i64 now, .slice A l.length c] 32)).alloc (.map #[] 0)) from ⟨hB0, hM0, hb0⟩)
  have HIL := Lib.hid (isList_l8 hv ht)
  have HLK := Lib.hid (show ∀ x ∈ l8L l t, x.1.size ≤ maxLen from fun x hx => by
    rcases l8L_mem.1 hx with ⟨y, hy, _, rfl⟩ | ⟨y, hy, _, _, rfl⟩
    · exact hf.2 y hy
    · exact hf.2 y hy)
  have HLL := Lib.hid (show (l8L l t).length ≤ 1048576 from by
    have h1 : ∀ (m : List Ver), (m.flatMap (one8 l t)).length ≤ 2 * m.length := by
      intro m
      induction m with
      | nil => simp
      | cons x m ih =>
        rw [List.flatMap_cons, List.length_append, List.length_cons]
        have : (one8 l t x).length ≤ 2 := by unfold one8; split <;> split <;> simp
        omega
    have := h1 l
    unfold l8L
    omega)
  have HF := Lib.hid hf
  have HRA := Lib.hid hS
  have hmm := @run_makeMap Try.prog
  clear hb0 hB0 hM0 hf hS hv
  go_enter Try.func50, Try.ntmps50
  have r1 : ((w.alloc (.cells #[.int .i64 now, .slice A l.length c] 32)).alloc (.map #[] 0)).cell? ⟨w.heap.size, 1, none⟩ = some (.slice A l.length c) := HST.out.1.cell 1
  go_wp2
  clear r1 hmm
  generalize (w.alloc (.cells #[.int .i64 now, .slice A l.length c] 32)).alloc (.map #[] 0) = w0 at *
  go_loopg [14] l.length (fun kx s14 W => ∃ k : Nat, k ≤ l.length ∧ kx = l.length - k ∧ s14 = .int .i64 k ∧ Hid (BA w now A l c k (fA t (l.take k)) W))
  case atStart => exact ⟨0, Nat.zero_le _, rfl, rfl, HST⟩
  case round =>
    clear HST
    obtain ⟨k, hk, hg, rfl, HA⟩ := hrel
    by_cases hlt : k < l.length
    · obtain ⟨b, o, rfl, hbl, c0, c1, c2', c3⟩ := Sl.at4 (HRA.out.below HA.out.2.2) hlt
      have HX := Lib.hid (HF.out.2 _ (List.getElem_mem hlt))
      have HFT := Lib.hid (fA_take (t := t) hlt)
      obtain ⟨f2, hf2⟩ : ∃ f2, f2 = fA t (l.take (k + 1)) := ⟨_, rfl⟩
      rw [← hf2] at HFT
      have HF20 := Lib.hid hf2
      clear hf2
      generalize fA t (l.take k) = f at *
      generalize l[k] = x at *
      obtain ⟨xk, xn, xf, xt⟩ := x
      simp only at c0 c1 c2' c3 HX
      have hki : (k : Int) < (l.length : Int) := by omega
      have hki0 : (0 : Int) ≤ (k : Int) := by omega
      have hba := (Below.refl wr.heap.size wr).alloc (Nat.le_refl _) (.cells #[.string xk, .int .i64 xn, .int .i64 xf, .int .i64 xt] 88)
      have HA1 := Lib.hid (HA.out.below hba)
      clear hba
      by_cases hft : xf = t
      · have d0 : (xf == t) = true := beq_iff_eq.2 hft
        have d1 : decide (xf = t) = true := decide_eq_true hft
        have HF2 := Lib.hid (show f2 = updF f (xk, xn, false) from by rw [HFT.out]; exact if_pos hft)
        clear hft HFT
        have HP := Lib.hid (put_any (w.heap.size + 1) k f (xk, xn, false) (wr.alloc (.cells #[.string xk, .int .i64 xn, .int .i64 xf, .int .i64 xt] 88)) HX.out (by omega) HA1.out.2.1)
        go_wp2_with fail
        refine HP.out.mono ?_
        rintro e w2 ⟨rfl, hB2, hg2⟩
        have HA2 := Lib.hid (show BA w now (some ⟨b, o, none⟩) l c (k + 1) f2 w2 from HA1.out.put hg2 (by rw [HF2.out]; exact hB2))
        clear HP hB2 hg2
        go_wp2
        go_roundg (l.length - (k + 1))
        case measure => omega
        case rel => exact ⟨k + 1, by omega, by omega, by go_num, Lib.hid (by rw [← HF20.out]; exact HA2.out)⟩
      · have d0 : (xf == t) = false := beq_eq_false_iff_ne.2 hft
        have d1 : decide (xf = t) = false := decide_eq_false hft
        by_cases hto : xt = t
        · have t0 : (xt == t) = true := beq_iff_eq.2 hto
          have t1 : decide (xt = t) = true := decide_eq_true hto
          cases hfx : (f xk).isSome
          · have HF2 := Lib.hid (show f2 = updF f (xk, 0, true) from by rw [HFT.out]; exact (if_neg hft).trans ((if_pos hto).trans (if_neg (by rw [hfx]; simp))))
            have HFX := Lib.hid hfx
            clear hft hto HFT hfx
            go_wp2_with (at_lookup; refine lookOk_buf (wr.alloc (.cells #[.string xk, .int .i64 xn, .int .i64 xf, .int .i64 xt] 88)) rfl _ _ rfl (w.heap.size + 1) k f rfl HA1.out.2.1 xk rfl HX.out false HFX.out ?_; intro y)
            have hby := (Below.refl (wr.alloc (.cells #[.string xk, .int .i64 xn, .int .i64 xf, .int .i64 xt] 88)).heap.size (wr.alloc (.cells #[.string xk, .int .i64 xn, .int .i64 xf, .int .i64 xt] 88))).alloc (Nat.le_refl _) (.cells #[.string y.1, .int .i64 y.2.1, .bool y.2.2] 46)
            have HAy := Lib.hid (HA1.out.below hby)
            clear hby
            refine (put_any (w.heap.size + 1) k f (xk, 0, true) _ HX.out (by omega) HAy.out.2.1).mono ?_
            rintro e w2 ⟨rfl, hB2, hg2⟩
            have HA2 := Lib.hid (show BA w now (some ⟨b, o, none⟩) l c (k + 1) f2 w2 from HAy.out.put hg2 (by rw [HF2.out]; exact hB2))
            clear hB2 hg2
            go_wp2
            go_roundg (l.length - (k + 1))
            case measure => omega
            case rel => exact ⟨k + 1, by omega, by omega, by go_num, Lib.hid (by rw [← HF20.out]; exact HA2.out)⟩
          · have HF2 := Lib.hid (show f2 = f from by rw [HFT.out]; exact (if_neg hft).trans ((if_pos hto).trans (if_pos hfx)))
            have HFX := Lib.hid hfx
            clear hft hto HFT hfx
            go_wp2_with (at_lookup; refine lookOk_buf (wr.alloc (.cells #[.string xk, .int .i64 xn, .int .i64 xf, .int .i64 xt] 88)) rfl _ _ rfl (w.heap.size + 1) k f rfl HA1.out.2.1 xk rfl HX.out true HFX.out ?_; intro y)
            have hby := (Below.refl (wr.alloc (.cells #[.string xk, .int .i64 xn, .int .i64 xf, .int .i64 xt] 88)).heap.size (wr.alloc (.cells #[.string xk, .int .i64 xn, .int .i64 xf, .int .i64 xt] 88))).alloc (Nat.le_refl _) (.cells #[.string y.1, .int .i64 y.2.1, .bool y.2.2] 46)
            have HA2 := Lib.hid (show BA w now (some ⟨b, o, none⟩) l c (k + 1) f2 _ from ⟨(HA1.out.below hby).1, by rw [HF2.out]; exact (HA1.out.below hby).2.1.mono (by omega), (HA1.out.below hby).2.2⟩)
            go_roundg (l.length - (k + 1))
            case measure => omega
            case rel => exact ⟨k + 1, by omega, by omega, by go_num, Lib.hid (by rw [← HF20.out]; exact HA2.out)⟩
        · have t0 : (xt == t) = false := beq_eq_false_iff_ne.2 hto
          have t1 : decide (xt = t) = false := decide_eq_false hto
          have HF2 := Lib.hid (show f2 = f from by rw [HFT.out]; exact (if_neg hft).trans (if_neg hto))
          clear hft hto HFT
          have HA2 := Lib.hid (show BA w now (some ⟨b, o, none⟩) l c (k + 1) f2 (wr.alloc (.cells #[.string xk, .int .i64 xn, .int .i64 xf, .int .i64 xt] 88)) from ⟨HA1.out.1, by rw [HF2.out]; exact HA1.out.2.1.mono (by omega), HA1.out.2.2⟩)
          go_wp2
          go_roundg (l.length - (k + 1))
          case measure => omega
          case rel => exact ⟨k + 1, by omega, by omega, by go_num, Lib.hid (by rw [← HF20.out]; exact HA2.out)⟩
    · obtain rfl : k = l.length := by omega
      rw [List.take_length] at HA
      have HL := Lib.hid (list_any (w.heap.size + 1) l.length (fA t l) (l8L l t) wr (by omega) HA.out.2.1 HIL.out HLK.out HLL.out)
      go_wp2_with fail
      refine HL.out.mono ?_
      rintro e w2 ⟨v, rfl, ho, hb2⟩
      have HO := Lib.hid (OwnW.leB ho HA.out.2.2.size)
      have hbe := bthen HA.out.2.2 hb2
      clear ho hb2 HL
      go_wp2
      go_ret
      exact ⟨v, rfl, HO.out, hbe⟩
/-- what was done at a time, if the store is right and the time is one -/
noncomputable def pastL (now : Int) (l : List Ver) (t : Int) : List Wri := if versB now l = true ∧ 1 ≤ t ∧ t ≤ now then l8L l t else []
set_option maxRecDepth 100000 in
set_option maxHeartbeats 1000000 in
theorem implPastAt_any (A : Option Addr) (l : List Ver) (c : Nat) (now t : Int) (w : World) (hf : FitsV l) (hn : l.length ≤ 1048576) (hS : Sl encVer 4 w A l) :
    Calls Try.prog 16 #[.agg #[.int .i64 now, .slice A l.length c], .int .i64 t] w fun e w' => ∃ v, e = .returned v ∧ OwnW w' w.heap.size v (pastL now l t) ∧ Below w.heap.size w w' := by
  have hb0 := (Below.refl w.heap.size w).alloc (Nat.le_refl _) (.cells #[.int .i64 now, .slice A l.length c] 32)
  have hB0 := Blk.new w 32 #[.int .i64 now, .slice A l.length c]
  have HV := Lib.hid (implVersOk_any A l c now _ hf hn (hS.below hb0))
  have HS := Lib.hid (hS.below hb0)
  have HF := Lib.hid hf
  clear hS hf
  go_enter Try.func16, Try.ntmps16
  go_wp2_with fail
  refine HV.out.mono ?_
  rintro e w1 ⟨rfl, hb1⟩
  have hb := bthen hb0 hb1
  have hB1 := hB0.kept hb1
  have r0 : w1.cell? ⟨w.heap.size, 0, none⟩ = some (.int .i64 now) := hB1.cell 0
  have r1 : w1.cell? ⟨w.heap.size, 1, none⟩ = some (.slice A l.length c) := hB1.cell 1
  have HS1 := Lib.hid (HS.out.below hb1)
  clear HV HS hB0 hB1 hb0 hb1
  cases hv : versB now l
  · have HP := Lib.hid (show pastL now l t = [] from if_neg (fun h => by rw [hv] at h; cases h.1))
    clear hv
    go_wp2
    go_ret
    exact ⟨_, rfl, by rw [HP.out]; exact ⟨rfl, .inl ⟨rfl, rfl⟩⟩, hb⟩
  have HVV := Lib.hid hv
  clear hv
  by_cases h1 : t < 1
  · have HP := Lib.hid (show pastL now l t = [] from if_neg (fun h => by omega))
    have d0 : decide (t < 1) = true := decide_eq_true h1
    clear h1
    go_wp2
    go_ret
    exact ⟨_, rfl, by rw [HP.out]; exact ⟨rfl, .inl ⟨rfl, rfl⟩⟩, hb⟩
  have d0 : decide (t < 1) = false := decide_eq_false h1
  by_cases h2 : now < t
  · have HP := Lib.hid (show pastL now l t = [] from if_neg (fun h => by omega))
    have d1 : decide (now < t) = true := decide_eq_true h2
    clear h1 h2
    go_wp2
    go_ret
    exact ⟨_, rfl, by rw [HP.out]; exact ⟨rfl, .inl ⟨rfl, rfl⟩⟩, hb⟩
  have d1 : decide (now < t) = false := decide_eq_false h2
  have HP := Lib.hid (show pastL now l t = l8L l t from if_pos ⟨HVV.out, by omega, by omega⟩)
  have HW := Lib.hid (writesAt_any A l c now t w1 HF.out HVV.out (by omega) HS1.out)
  clear h1 h2
  go_wp2_with fail
  refine HW.out.mono ?_
  rintro e w2 ⟨v, rfl, ho, hb2⟩
  have HO := Lib.hid (OwnW.leB ho hb.size)
  have hbe := bthen hb hb2
  clear ho hb2 HW
  go_wp2
  go_ret
  exact ⟨v, rfl, by rw [HP.out]; exact HO.out, hbe⟩
end Go.Proofs.Ytpjkcmmmpgncmaa
