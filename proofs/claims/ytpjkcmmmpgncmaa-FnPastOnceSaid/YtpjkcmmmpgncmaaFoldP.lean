/- What is done one behind the other: plain words. -/
import Derived.Test.YtpjkcmmmpgncmaaImplDo
import Derived.Test.YtpjkcmmmpgncmaaWriSS
namespace Go.Proofs.Ytpjkcmmmpgncmaa
open Go.RowKit
/-- all that is done, one behind the other -/
noncomputable def goF (now : Int) (l : List Ver) : List (List Wri) → (Int × List Ver) × Bool
  | [] => ((now, l), true)
  | r :: rs => if wrsB 20 r = true then (if versB (now + 1) (doS (now + 1) l r) = true then goF (now + 1) (doS (now + 1) l r) rs else ((0, []), false)) else ((0, []), false)
theorem goF_nil (now : Int) (l : List Ver) : goF now l [] = ((now, l), true) := rfl
theorem goF_row {now : Int} {l : List Ver} {r : List Wri} {rs : List (List Wri)} (h : wrsB 20 r = false) : goF now l (r :: rs) = ((0, []), false) := by
  unfold goF; rw [if_neg (by rw [h]; simp)]
theorem goF_bad {now : Int} {l : List Ver} {r : List Wri} {rs : List (List Wri)} (h : wrsB 20 r = true) (h2 : versB (now + 1) (doS (now + 1) l r) = false) : goF now l (r :: rs) = ((0, []), false) := by
  unfold goF; rw [if_pos h, if_neg (by rw [h2]; simp)]
theorem goF_on {now : Int} {l : List Ver} {r : List Wri} {rs : List (List Wri)} (h : wrsB 20 r = true) (h2 : versB (now + 1) (doS (now + 1) l r) = true) : goF now l (r :: rs) = goF (now + 1) (doS (now + 1) l r) rs := by
  conv => lhs; unfold goF
  rw [if_pos h, if_pos h2]
theorem goF_short : ∀ (rs : List (List Wri)) (now : Int) (l : List Ver), l.length ≤ 60 → (goF now l rs).1.2.length ≤ 60 := by
  intro rs
  induction rs with
  | nil => intro now l h; exact h
  | cons r rs ih =>
    intro now l h
    cases h1 : wrsB 20 r
    · rw [goF_row h1]; exact Nat.zero_le _
    · cases h2 : versB (now + 1) (doS (now + 1) l r)
      · rw [goF_bad h1 h2]; exact Nat.zero_le _
      · rw [goF_on h1 h2]; exact ih _ _ (versB_out h2).1.2.2
theorem vers_start : versB 0 [] = true := versB_yes ⟨⟨by decide, by decide, by decide⟩, fun i h => absurd h (by simp), fun i h => absurd h (by simp), fun t _ _ => by simp [atL]⟩
/-- the rows from the k-th on -/
def goK (rs : List Wrow) (k : Nat) (now : Int) (l : List Ver) : Prop := goF 0 [] (cont rs) = goF now l ((cont rs).drop k)
theorem goK_step {rs : List Wrow} {k : Nat} {now : Int} {l : List Ver} (h : goK rs k now l) (hk : k < rs.length) : goF 0 [] (cont rs) = goF now l (rs[k].2.2 :: (cont rs).drop (k + 1)) := by
  have hk2 : k < (cont rs).length := by rw [cont_len]; exact hk
  rw [h, List.drop_eq_getElem_cons hk2, cont_get rs k hk]
theorem goK_end {rs : List Wrow} {now : Int} {l : List Ver} (h : goK rs rs.length now l) : goF 0 [] (cont rs) = ((now, l), true) := by
  rw [h, List.drop_eq_nil_of_le (by rw [cont_len]; exact Nat.le_refl _)]; rfl
theorem OwnV.reads2 {w : World} {B c : Nat} {A : Option Addr} {l : List Ver} (h : OwnV w B (.slice A l.length c) l) : Sl encVer 4 w A l := by
  obtain ⟨a1, a2, a3, _, _, a4⟩ := h.sl
  injection a3 with b1 b2 b3
  subst b1; exact a4
/-- what stands while rows are done: the answer so far, in its box -/
def PI (w : World) (g : Nat) (rs : List Wrow) (k : Nat) (now : Int) (A : Option Addr) (l : List Ver) (c : Nat) (W : World) : Prop :=
  goK rs k now l ∧ versB now l = true ∧ Blk W g 32 #[.int .i64 now, .slice A l.length c] ∧ Blk W w.heap.size 32 #[.int .i64 0, .slice none 0 0] ∧ OwnV W w.heap.size (.slice A l.length c) l ∧ Below w.heap.size w W ∧ FitsV l
theorem PI.below {w : World} {g : Nat} {rs : List Wrow} {k : Nat} {now : Int} {A : Option Addr} {l : List Ver} {c : Nat} {W W' : World} (h : PI w g rs k now A l c W) (hb : Below W.heap.size W W') : PI w g rs k now A l c W' := by
  obtain ⟨h1, h2, h3, h4, h5, h6, h7⟩ := h
  exact ⟨h1, h2, h3.kept hb, h4.kept hb, own_kept h5 hb, bthen h6 hb, h7⟩
theorem own_setV {W : World} {B g : Nat} {v a b : Value} {l : List Ver} (h : OwnV W B v l) (hb : Blk W g 32 #[a, b]) (x y : Value) : OwnV ((W.setCell ⟨g, 0, none⟩ x).setCell ⟨g, 1, none⟩ y) B v l := by
  have h1 : OwnV (W.setCell ⟨g, 0, none⟩ x) B v l := ownsRow_setCell_other h (Ne.symm (own_ne h hb)) x
  exact ownsRow_setCell_other h1 (Ne.symm (own_ne h1 (hb.set_ 0 _))) _
theorem fits_do {now : Int} {l : List Ver} {ws : List Wri} (hl : l.length ≤ 400) (hws : ws.length ≤ 400) (hf : FitsV l) (hf2 : FitsW ws) : FitsV (doS now l ws) ∧ (doS now l ws).length ≤ 800 := by
  have := doS_len now ws l
  exact ⟨⟨by unfold maxLen; omega, doS_fits ws l hf.2 hf2.2⟩, by omega⟩
end Go.Proofs.Ytpjkcmmmpgncmaa
