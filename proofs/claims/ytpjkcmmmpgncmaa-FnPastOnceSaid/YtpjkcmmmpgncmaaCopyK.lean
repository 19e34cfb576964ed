/- copy(dst, src) at elements of k cells, dst lying in a row that is known whole. -/
import Derived.Test.YtpjkcmmmpgncmaaLibB
import Derived.Laws.CopyOwn
import Derived.Lib.AppendZerosOnto
import Derived.Lib.Overlaps
namespace Go.Proofs.Ytpjkcmmmpgncmaa
open Go.RowKit
theorem run_copy_rowK {P : Program} (w : World) (dT sT ty elem : TypeId) (size g o dLen dCap : Nat) (a : Addr) (sLen sCap : Nat) (cur : Array Value) (t : TypeId) (cs : List Value)
    (hu : P.underlying dT = some (.slice elem)) (hs : (P.info? elem).map (·.size) = some size)
    (hg : w.heap[g]? = some (.cells cur t (0, 0))) (hn : cs.length = Nat.min sLen dLen * size)
    (hsrc : ∀ j v, cs[j]? = some v → w.cell? (a.add j) = some v) (hfit : o + cs.length ≤ cur.size) (h1 : ∀ v ∈ cs, v.oneCell' = true) :
    (Builtin.copy_ #[dT, sT] ty #[.slice (some ⟨g, o, none⟩) dLen dCap, .slice (some a) sLen sCap]).run P w =
      .ok (goInt (Nat.min sLen dLen)) (w.setRow g (splice cur.toList o cs).toArray) := by
  have hl := run_loadCells_list (P := P) w a cs hsrc
  have hst := run_storeCells_at P g o t cs 0 cur w hg (by simpa using hfit) h1
  rw [hn] at hl
  cases hq : P.info? elem with
  | none => simp [hq] at hs
  | some i =>
    have hi : i.size = size := by simpa [hq] using hs
    unfold splice
    simp [Builtin.copy_, run_underlying hu, Builtin.lenOf, Builtin.firstCells, sizeOf, typeInfo, hq, hi, hl, hst]
/-- as a step of a walk: the row behind it, and that all else stays -/
theorem wpList_copyK {P : Program} {w : World} {ops : Array Oper} {rest : List Oper} {o : Oper} {a : Act} {Q : Exit → Act → World → Prop} (hgd : o.guard = none) (d s : Operand) (dT sT : TypeId)
    (ho : o.op = .call { callee := .builtin .copy, args := #[d, s], argTypes := #[dT, sT] }) (elem : TypeId) (hu : P.underlying dT = some (.slice elem)) (size : Nat) (hsz : (P.info? elem).map (·.size) = some size)
    (g off dLen dCap : Nat) (ad : Addr) (sLen sCap : Nat) (hd : a.eval d = .slice (some ⟨g, off, none⟩) dLen dCap) (hs : a.eval s = .slice (some ad) sLen sCap)
    (cur : Array Value) (t : TypeId) (hg : w.heap[g]? = some (.cells cur t (0, 0))) (cs : List Value) (hn : cs.length = Nat.min sLen dLen * size)
    (hsrc : ∀ j v, cs[j]? = some v → w.cell? (ad.add j) = some v) (hfit : off + cs.length ≤ cur.size) (h1 : ∀ v ∈ cs, v.oneCell' = true)
    (h : ∀ w', Blk w' g t (splice cur.toList off cs).toArray → w.grownBy w' (some g) → wpList P ops Q rest (a.put o.dst (goInt (Nat.min sLen dLen))) w') : wpList P ops Q (o :: rest) a w := by
  refine wpList_plain hgd fun K hK => ?_
  have hrun := run_copy_rowK (P := P) w dT sT o.type elem size g off dLen dCap ad sLen sCap cur t cs hu hsz hg hn hsrc hfit h1
  unfold Oper.wp
  simp only [execOp, ho, resolve, invoke, builtin, Sem.run_bind, Sem.run_pure, Result.andThen_ok, List.map_toArray, List.map_cons, List.map_nil, hd, hs, hrun]
  exact hK _ _ (h _ (setRow_heap w g _ _ t _ hg) ⟨rfl, rfl, rfl, by simp [World.setRow], fun k hk hne => setRow_other w g k _ (fun e => hne (by rw [e]))⟩)
theorem step_copyK {P : Program} {ops : Array Oper} {o : Oper} {a : Act} {w : World} {K : Act → World → Prop} {Q : Exit → Act → World → Prop} {E : Prop} (hgd : o.guard = none) (d s : Operand) (dT sT : TypeId)
    (ho : o.op = .call { callee := .builtin .copy, args := #[d, s], argTypes := #[dT, sT] }) (elem : TypeId) (hu : P.underlying dT = some (.slice elem)) (size : Nat) (hsz : (P.info? elem).map (·.size) = some size)
    (g off dLen dCap : Nat) (ad : Addr) (sLen sCap : Nat) (hd : a.eval d = .slice (some ⟨g, off, none⟩) dLen dCap) (hs : a.eval s = .slice (some ad) sLen sCap)
    (cur : Array Value) (t : TypeId) (hg : w.heap[g]? = some (.cells cur t (0, 0))) (cs : List Value) (hn : cs.length = Nat.min sLen dLen * size)
    (hsrc : ∀ j v, cs[j]? = some v → w.cell? (ad.add j) = some v) (hfit : off + cs.length ≤ cur.size) (h1 : ∀ v ∈ cs, v.oneCell' = true)
    (h : ∀ w', Hid (Blk w' g t (splice cur.toList off cs).toArray) → Hid (w.grownBy w' (some g)) → K (a.put o.dst (goInt (Nat.min sLen dLen))) w') :
    if Region.wanted o (yielded ops a.tmps) = true then Oper.wp P o a w K Q else E := by
  have hw : Region.wanted o (yielded ops a.tmps) = true := by simp [Region.wanted, hgd]
  rw [if_pos hw]
  have hrun := run_copy_rowK (P := P) w dT sT o.type elem size g off dLen dCap ad sLen sCap cur t cs hu hsz hg hn hsrc hfit h1
  unfold Oper.wp
  simp only [execOp, ho, resolve, invoke, builtin, Sem.run_bind, Sem.run_pure, Result.andThen_ok, List.map_toArray, List.map_cons, List.map_nil, hd, hs, hrun]
  exact h _ (setRow_heap w g _ _ t _ hg) ⟨rfl, rfl, rfl, by simp [World.setRow], fun k hk hne => setRow_other w g k _ (fun e => hne (by rw [e]))⟩
/-- two copies that make room in a row and fill it -/
theorem splice_ins {α : Type} (F1 F2 X R : List α) (hX : X.length ≤ R.length) : splice (splice (F1 ++ (F2 ++ R)) (F1.length + X.length) F2) F1.length X = F1 ++ (X ++ (F2 ++ R.drop X.length)) := by
  have e1 : splice (F1 ++ (F2 ++ R)) (F1.length + X.length) F2 = F1 ++ ((F2 ++ R).take X.length ++ (F2 ++ R.drop X.length)) := by
    unfold splice
    rw [List.take_append, List.drop_append]
    have h1 : (F1.take (F1.length + X.length)) = F1 := List.take_of_length_le (by omega)
    have h2 : F1.drop (F1.length + X.length + F2.length) = [] := List.drop_eq_nil_of_le (by omega)
    rw [h1, h2, List.nil_append, show F1.length + X.length - F1.length = X.length by omega, show F1.length + X.length + F2.length - F1.length = F2.length + X.length by omega]
    have h3 : (F2 ++ R).drop (F2.length + X.length) = R.drop X.length := by
      rw [List.drop_append]
      rw [List.drop_eq_nil_of_le (by omega), List.nil_append, show F2.length + X.length - F2.length = X.length by omega]
    rw [h3]; simp
  have hl : ((F2 ++ R).take X.length).length = X.length := by rw [List.length_take, List.length_append]; omega
  rw [e1]
  generalize (F2 ++ R).take X.length = Y at *
  unfold splice
  have h1 : (F1 ++ (Y ++ (F2 ++ R.drop X.length))).take F1.length = F1 := by simp
  have h2 : (F1 ++ (Y ++ (F2 ++ R.drop X.length))).drop (F1.length + X.length) = F2 ++ R.drop X.length := by
    rw [List.drop_append, List.drop_eq_nil_of_le (by omega), List.nil_append, show F1.length + X.length - F1.length = Y.length by omega]
    simp
  rw [h1, h2]
/-- what append-of-make left, filled by two copies -/
theorem splice_fill {α : Type} (F1 F2 X Z R : List α) (hZ : Z.length = X.length + F2.length) : splice (splice (F1 ++ (Z ++ R)) F1.length X) (F1.length + X.length) F2 = F1 ++ (X ++ (F2 ++ R)) := by
  obtain ⟨Z1, Z2, rfl, h1⟩ : ∃ Z1 Z2, Z = Z1 ++ Z2 ∧ Z1.length = X.length := ⟨Z.take X.length, Z.drop X.length, (List.take_append_drop _ _).symm, by rw [List.length_take]; omega⟩
  have h2 : Z2.length = F2.length := by rw [List.length_append] at hZ; omega
  have e1 : splice (F1 ++ (Z1 ++ Z2 ++ R)) F1.length X = F1 ++ (X ++ (Z2 ++ R)) := by
    unfold splice
    rw [List.drop_append, List.drop_eq_nil_of_le (by omega), List.nil_append, show F1.length + X.length - F1.length = Z1.length by omega]
    simp
  rw [e1]
  unfold splice
  have e2 : (F1 ++ (X ++ (Z2 ++ R))).take (F1.length + X.length) = F1 ++ X := by
    rw [← List.append_assoc, List.take_append_of_le_length (by simp)]
    exact List.take_of_length_le (by simp)
  have e3 : (F1 ++ (X ++ (Z2 ++ R))).drop (F1.length + X.length + F2.length) = R := by
    rw [← List.append_assoc, ← List.append_assoc]
    rw [List.drop_append_of_le_length (by simp; omega), List.drop_eq_nil_of_le (by simp; omega)]; rfl
  rw [e2, e3]; simp
end Go.Proofs.Ytpjkcmmmpgncmaa
