/- The laws' helpers on rows of rows of writes: their size, their copies, their equality. -/
import Derived.Test.YteanjfjlmpgnnaaWriSz
import Derived.Test.YteanjfjlmpgnnaaWriEq
import Derived.Test.YteanjfjlmpgnnaaLibB
namespace Go.Proofs.Yteanjfjlmpgnnaa
open Go.RowKit
theorem infoRowS : (Try.prog.info? 41).map (fun i => (i.zero, i.size, i.bytes)) = some (some (.slice none 0 0), 1, 24) := by kernel_rfl
/-- a row of rows that the call owns: its block, what it holds -/
def OwnSS (w : World) (v : Value) (ls : List (List Wri)) : Prop :=
  ∃ (A : Option Addr) (c : Nat) (rs : List Wrow), v = .slice A rs.length c ∧ cont rs = ls ∧ rs.length ≤ c ∧ c ≤ maxLen ∧ Sl2 w A rs ∧ (∀ r ∈ rs, r.2.2.length ≤ r.2.1 ∧ r.2.1 ≤ maxLen)
theorem cells_take {cs : Array Value} {rs : List Wrow} {k n : Nat} {r : Wrow} {v : Value} (hs : cs.size = n) (hk : rs.length = k) (hlt : k < n) (h : ∀ (i : Nat) (x : Wrow), rs[i]? = some x → cs[i]? = (encWrow x)[0]?) (hv : encWrow r = [v]) :
    ∀ (i : Nat) (x : Wrow), (rs ++ [r])[i]? = some x → (cs.setIfInBounds k v)[i]? = (encWrow x)[0]? := by
  intro i x hx
  rw [Array.getElem?_setIfInBounds]
  by_cases hi : i < k
  · rw [if_neg (by omega)]
    exact h i x (by rw [List.getElem?_append_left (by omega)] at hx; exact hx)
  · have hi2 : i < (rs ++ [r]).length := (List.getElem?_eq_some_iff.1 hx).1
    simp at hi2
    obtain rfl : i = k := by omega
    rw [List.getElem?_append_right (by omega), hk, Nat.sub_self] at hx
    simp at hx; subst hx
    rw [if_pos rfl, if_pos (by omega), hv]; rfl
set_option maxHeartbeats 400000 in
theorem eqWriteSS_any (A A2 : Option Addr) (l l2 : List Wrow) (c c2 : Nat) (w : World) (hn : FitsR l) (hn2 : FitsR l2) (hR : Sl2 w A l) (hR2 : Sl2 w A2 l2) (heq : cont l = cont l2) :
    Calls Try.prog 41 #[.slice A l.length c, .slice A2 l2.length c2] w fun e w' => e = .returned (.bool true) ∧ Below w.heap.size w w' := by
  have hn' := hn.1
  have hn2' := hn2.1
  unfold maxLen at hn' hn2'
  have hlt : l.length = l2.length := by rw [← cont_len l, heq, cont_len]
  have hlb : (((l.length : Int) != (l2.length : Int)) = false) := by simp [hlt]
  have HL := Lib.hid hlt
  have HQ := Lib.hid heq
  clear hlt heq
  go_enter Try.func41, Try.ntmps41
  go_wp2
  go_loopw [5] (fun i wr => ∃ k : Nat, k ≤ l.length ∧ i = .int .i64 k ∧ Below w.heap.size w wr) (fun i _ => l.length - (intOf i).toNat)
  case atStart => exact ⟨0, by omega, rfl, Below.refl _ _⟩
  case round =>
    obtain ⟨k, hk, rfl, hb⟩ := hrel
    by_cases hlt2 : k < l.length
    · have h2 : k < l2.length := HL.out ▸ hlt2
      obtain ⟨b, o, rfl, hbl, c0, s0⟩ := (hR.below hb).at_ hlt2
      obtain ⟨b2, o2, rfl, hbl2, d0, s2⟩ := (hR2.below hb).at_ h2
      have hf1 := hn.2 l[k] (by simp)
      have hf2 := hn2.2 l2[k] (by simp)
      have he : l[k].2.2 = l2[k].2.2 := by
        rw [← cont_get l k hlt2, ← cont_get l2 k h2]; simp [HQ.out]
      generalize hx : l[k] = x at *
      generalize hy : l2[k] = y at *
      obtain ⟨Ax, cx, lx⟩ := x
      obtain ⟨Ay, cy, ly⟩ := y
      simp only at c0 s0 d0 s2 hf1 hf2 he
      subst he
      have hf1' := hf1.1
      clear hx hy hR hR2 hn hn2 HQ hf1 hf2
      go_wp2_with fail
      refine wp_region_below (by kernel_rfl) (by kernel_rfl) ?_
      iterate 10 (refine wpQuiet_step (fun K hK => ?_); go_simp; first | (apply Exists.intro; refine ⟨fun W hW => ?_, hK _ ?_⟩; (first | rfl | (go_at_call 79; exact quiet_call hW (Nat.le_refl _) (eqWriteS_any Ax Ay lx lx cx cy _ hf1' hf1' (s0.below hW) (s2.below hW))) | (have e0 := (hW.cell (p := ⟨b, o + k, none⟩) hbl).trans c0; have f0 := (hW.cell (p := ⟨b2, o2 + k, none⟩) hbl2).trans d0; go_simp; rfl)); clear hK K) | (refine hK _ ?_; clear hK K))
      refine wpQuiet_nil ?_
      intro W hW
      have hb' := bthen hb hW
      rw [eqB_yes rfl]
      go_wp2
      go_roundw
      case rel => exact ⟨k+1, by omega, by go_num, hb'⟩
      case measure => simp [intOf]; omega
    · obtain rfl : k = l.length := by omega
      go_wp2
      go_ret
      exact ⟨rfl, hb⟩
end Go.Proofs.Yteanjfjlmpgnnaa
