/- The laws' helpers on rows of rows of writes: their size, their copies, their equality. -/
import Derived.Test.YtpjkcmmmpgncmaaWriSz
import Derived.Test.YtpjkcmmmpgncmaaWriEq
import Derived.Test.YtpjkcmmmpgncmaaLibB
namespace Go.Proofs.Ytpjkcmmmpgncmaa
open Go.RowKit
theorem infoRowS : (Try.prog.info? 41).map (fun i => (i.zero, i.size, i.bytes)) = some (some (.slice none 0 0), 1, 24) := by kernel_rfl
/-- a row of rows that the call owns: its block, what it holds -/
def OwnSS (w : World) (v : Value) (ls : List (List Wri)) : Prop :=
  ∃ (A : Option Addr) (c : Nat) (rs : List Wrow), v = .slice A rs.length c ∧ cont rs = ls ∧ rs.length ≤ c ∧ c ≤ maxLen ∧ Sl2 w A rs ∧ (∀ r ∈ rs, r.2.2.length ≤ r.2.1 ∧ r.2.1 ≤ maxLen)
theorem cells_take {cs : Array Value} {rs : List Wrow} {k n : Nat} {r : Wrow} {v : Value} (hs : cs.size = n) (hk : rs.length = k) (hlt : k < n) (h : ∀ (i : Nat) (x : Wrow), rs[i]? = some x → cs[i]? = (encWrow x)[0]?) (hv : encWrow r = [v]) :
    ∀ (i : Nat) (x : Wrow), (rs ++ [r])[i]? = some x → (cs.setIfInBounds k v)[i]? = (encWrow x)[0]? := by
  intro i x hx
  rw [Array.getElem?_setIfInBounds]
  by_cases hi : i < k
  · rw [if_neg (by omega)]
    exact h i x (by rw [List.getElem?_append_left (by omega)] at hx; exact hx)
  · have hi2 : i < (rs ++ [r]).length := (List.getElem?_eq_some_iff.1 hx).1
    simp at hi2
    obtain rfl : i = k := by omega
    rw [List.getElem?_append_right (by omega), hk, Nat.sub_self] at hx
    simp at hx; subst hx
    rw [if_pos rfl, if_pos (by omega), hv]; rfl
end Go.Proofs.Ytpjkcmmmpgncmaa
