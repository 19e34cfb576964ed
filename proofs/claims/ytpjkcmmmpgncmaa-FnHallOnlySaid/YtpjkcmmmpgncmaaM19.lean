import Derived.Laws.CopyOwn
import Derived.Lib.AppendZerosOnto
import Derived.Lib.Overlaps
import Derived.Test.YtpjkcmmmpgncmaaM04
import Derived.Test.YtpjkcmmmpgncmaaM01
import Derived.Laws.OwnMore
import Derived.Test.YtpjkcmmmpgncmaaM20
/- slices.Insert of one version into a row of the call's own. -/
namespace Go.Proofs.Ytpjkcmmmpgncmaa
open Go.RowKit
theorem flat_split (l : List Ver) (e : Nat) : l.flatMap encVer = (l.take e).flatMap encVer ++ (l.drop e).flatMap encVer := by
  rw [← List.flatMap_append, List.take_append_drop]
theorem ins_flat (l : List Ver) (e : Nat) (x : Ver) : (l.take e ++ x :: l.drop e).flatMap encVer = (l.take e).flatMap encVer ++ (encVer x ++ (l.drop e).flatMap encVer) := by simp
end Go.Proofs.Ytpjkcmmmpgncmaa
/- The program's commit: right writes done to a store. -/
namespace Go.Proofs.Ytpjkcmmmpgncmaa
open Go.RowKit
theorem set_flat (now : Int) : ∀ (l : List Ver) (m : Nat) (y : Ver), l[m]? = some y → (l.flatMap encVer).set (m * 4 + 3) (.int .i64 now) = (l.set m (y.1, y.2.1, y.2.2.1, now)).flatMap encVer
  | [], _, _, h => by simp at h
  | x :: l, 0, y, h => by simp at h; subst h; simp [encVer]
  | x :: l, m + 1, y, h => by
    have ih := set_flat now l m y (by simpa using h)
    rw [List.set_cons_succ, List.flatMap_cons, List.flatMap_cons, ← ih]
    have h4 : (encVer x).length = 4 := rfl
    rw [List.set_append_right _ _ (by omega), h4]
    congr 2
    omega
theorem closeV_same {key : ByteArray} {now : Int} {x : Ver} (h : ¬ (x.1 = key ∧ x.2.2.2 = 0)) : closeV key now x = x := if_neg h
theorem doS_take {now : Int} {l : List Ver} {ws : List Wri} {k : Nat} (h : k < ws.length) : doS now l (ws.take (k + 1)) = writeS now (doS now l (ws.take k)) ws[k] := by
  unfold doS
  rw [List.take_succ_eq_append_getElem h, List.foldl_append]; rfl
theorem doS_len (now : Int) : ∀ (ws : List Wri) (l : List Ver), (doS now l ws).length ≤ l.length + ws.length
  | [], _ => Nat.le_refl _
  | w :: ws, l => by
    have h := doS_len now ws (writeS now l w)
    have h2 := writeS_len now l w
    show (doS now (writeS now l w) ws).length ≤ _
    rw [List.length_cons]; omega
theorem doS_fits {now : Int} : ∀ (ws : List Wri) (l : List Ver), (∀ x ∈ l, x.1.size ≤ maxLen) → (∀ x ∈ ws, x.1.size ≤ maxLen) → ∀ x ∈ doS now l ws, x.1.size ≤ maxLen
  | [], _, h, _ => h
  | w :: ws, l, h, h2 => doS_fits ws (writeS now l w) (writeS_fits h (h2 w List.mem_cons_self)) (fun x hx => h2 x (List.mem_cons_of_mem _ hx))
theorem own_ne {w : World} {B g : Nat} {v : Value} {l : List Ver} {cs : Array Value} (h : OwnV w B v l) (hb : Blk w g 32 cs) : some g ≠ v.ownBlock := by
  rcases h.2 with ⟨rfl, _⟩ | ⟨g', cap, cur, rfl, _, hg, _⟩
  · simp [Value.ownBlock]
  · intro e
    simp [Value.ownBlock] at e
    subst e
    unfold Blk at hb
    rw [hb] at hg
    simp at hg
theorem own_neW {w : World} {B g : Nat} {v : Value} {l : List Ver} {cs : Array Value} (h : OwnV w B v l) (hb : Blk w g 46 cs) : some g ≠ v.ownBlock := by
  rcases h.2 with ⟨rfl, _⟩ | ⟨g', cap, cur, rfl, _, hg, _⟩
  · simp [Value.ownBlock]
  · intro e
    simp [Value.ownBlock] at e
    subst e
    unfold Blk at hb
    rw [hb] at hg
    simp at hg
theorem own_row {w : World} {B : Nat} {A : Option Addr} {c : Nat} {l : List Ver} (h : OwnV w B (.slice A l.length c) l) {m : Nat} (hm : m < l.length) :
    ∃ g, A = some ⟨g, 0, none⟩ ∧ g < w.heap.size ∧ w.cell? ⟨g, m * 4, none⟩ = some (.string l[m].1) ∧ w.cell? ⟨g, m * 4 + 3, none⟩ = some (.int .i64 l[m].2.2.2) := by
  obtain ⟨A', c', e, _, _, hS⟩ := h.sl
  injection e with e1 e2 e3
  subst e1
  rcases h.2 with ⟨h2, h3⟩ | ⟨g, cap, cur, h2, h3, h4, _⟩
  · omega
  · injection h2 with h5 h6 h7
    subst h5
    obtain ⟨b, o, hA, hb, c0, _, _, c3⟩ := Sl.at4 hS hm
    simp at hA
    obtain ⟨rfl, rfl⟩ := hA
    exact ⟨g, rfl, hb, by simpa using c0, by simpa using c3⟩
theorem own_set4 {w : World} {B : Nat} {v : Value} {l : List Ver} {m : Nat} {now : Int} (h : w.ownsRow B 88 4 v l.length ((l.flatMap encVer).set (m * 4 + 3) (.int .i64 now))) (y : Ver) (hy : l[m]? = some y) : OwnV w B v (l.set m (y.1, y.2.1, y.2.2.1, now)) := by
  unfold OwnV
  rw [List.length_set, ← set_flat now l m y hy]
  exact h
/-- how it stands between two writes -/
def Cm (w : World) (B g5 : Nat) (now1 : Int) (L : List Ver) (W : World) : Prop :=
  ∃ v, OwnV W B v L ∧ Blk W g5 32 #[.int .i64 now1, v] ∧ Below w.heap.size w W
end Go.Proofs.Ytpjkcmmmpgncmaa
