/- Plain words: the last write of a key in rows of writes. The reference's PastLast. -/
import Derived.Test.YtpjkcmmmpgncmaaWriD
import Derived.Test.YtpjkcmmmpgncmaaWriSS
namespace Go.Proofs.Ytpjkcmmmpgncmaa
open Go.RowKit
def upd (key : ByteArray) (o : Option Wri) (l : List Wri) : Option Wri := l.foldl (fun o x => if x.1 = key then some x else o) o
theorem upd_app (key : ByteArray) (o : Option Wri) (a b : List Wri) : upd key o (a ++ b) = upd key (upd key o a) b := by simp [upd]
theorem upd_none_of {key : ByteArray} {o : Option Wri} {l : List Wri} (h : ∀ x ∈ l, x.1 ≠ key) : upd key o l = o := by
  unfold upd
  induction l generalizing o with
  | nil => rfl
  | cons x l ih => rw [List.foldl_cons, if_neg (h x (by simp))]; exact ih (fun y hy => h y (by simp [hy]))
theorem upd_take {key : ByteArray} {o : Option Wri} {l : List Wri} {k : Nat} (h : k < l.length) : upd key o (l.take (k+1)) = if l[k].1 = key then some l[k] else upd key o (l.take k) := by
  rw [List.take_succ_eq_append_getElem h, upd_app]; simp [upd]
theorem upd_hit {key : ByteArray} {o : Option Wri} {a b : List Wri} {x : Wri} (h : ∀ y ∈ b, y.1 ≠ key) (hx : x.1 = key) : upd key o (a ++ x :: b) = some x := by
  rw [upd_app]; unfold upd; rw [List.foldl_cons, if_pos hx]; exact upd_none_of h
def lastW (key : ByteArray) (ll : List (List Wri)) : Option Wri := ll.foldl (upd key) none
theorem lastW_take {key : ByteArray} {ll : List (List Wri)} {k : Nat} (h : k < ll.length) : lastW key (ll.take (k+1)) = upd key (lastW key (ll.take k)) ll[k] := by
  unfold lastW; rw [List.take_succ_eq_append_getElem h, List.foldl_append]; rfl
def wOf (o : Option Wri) : Wri := o.getD (⟨#[]⟩, 0, false)
/-- what comes of a row, its last first -/
def backTo (l : List Wri) (k : Nat) : List (Wri × Nat) := (l.zipIdx.drop k).reverse
theorem backTo_top (l : List Wri) : backTo l l.length = [] := by simp [backTo]
theorem backTo_step (l : List Wri) (k : Nat) (h : k < l.length) : backTo l k = backTo l (k + 1) ++ [(l[k], k)] := by
  unfold backTo
  rw [List.drop_eq_getElem_cons (by simpa using h), List.reverse_cons]
  simp
theorem backTo_fst (l : List Wri) (k : Nat) : (backTo l k).map (·.1) = (l.drop k).reverse := by
  unfold backTo
  rw [List.map_reverse, List.map_drop, List.zipIdx_map_fst]
theorem backTo_len (l : List Wri) (k : Nat) : (backTo l k).length = l.length - k := by simp [backTo]
theorem upd_back {key : ByteArray} {o : Option Wri} {l : List Wri} (h : ∀ x ∈ backTo l 0, x.1.1 ≠ key) : upd key o l = o := by
  apply upd_none_of
  intro x hx
  have := backTo_fst l 0
  rw [List.drop_zero] at this
  have hm : x ∈ (backTo l 0).map (·.1) := by rw [this]; simpa using hx
  obtain ⟨y, hy, rfl⟩ := List.mem_map.1 hm
  exact h y hy
theorem upd_back_hit {key : ByteArray} {o : Option Wri} {l : List Wri} {k : Nat} {q : List (Wri × Nat)} {x : Wri × Nat} (he : q ++ [x] = backTo l k) (h : ∀ y ∈ q, y.1.1 ≠ key) (hx : x.1.1 = key) : upd key o l = some x.1 := by
  have hf := backTo_fst l k
  rw [← he, List.map_append, List.map_cons, List.map_nil] at hf
  have hd : l.drop k = x.1 :: (q.map (·.1)).reverse := by
    have := congrArg List.reverse hf
    simpa using this.symm
  rw [← List.take_append_drop k l, hd]
  apply upd_hit _ hx
  intro y hy
  rw [List.mem_reverse] at hy
  obtain ⟨z, hz, rfl⟩ := List.mem_map.1 hy
  exact h z hz
end Go.Proofs.Ytpjkcmmmpgncmaa
namespace Go.Proofs.Ytpjkcmmmpgncmaa
open Go.RowKit
abbrev wriA (x : Wri) : Value := .agg #[.string x.1, .int .i64 x.2.1, .bool x.2.2]
abbrev wriC (x : Wri) : Array Value := #[.string x.1, .int .i64 x.2.1, .bool x.2.2]
def lastAt (key : ByteArray) (rs : List Wrow) (t : Int) : Option Wri := lastW key ((cont rs).take t.toNat)
def lastOut (o : Option Wri) : Ending := .returned (.tuple #[wriA (wOf o), .bool o.isSome])
end Go.Proofs.Ytpjkcmmmpgncmaa
