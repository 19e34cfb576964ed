/- The program's LettersText. -/
import Derived.Test.YtannpeedfakhkaaDoorLtrR
import Derived.Test.YtannpeedfakhkaaDoorShelf
namespace Go.Proofs.YtannpeedfakhkaaDoor
open Go.RowKit
def lrow (x : Let) : ByteArray := x.1 ++ twoD x.2.size ++ x.2
def txts (l : List Let) : List UInt8 := l.flatMap (fun x => (lrow x).data.toList)
def okAll (l : List Let) : Bool := l.all letB
theorem letB_sz {x : Let} (h : letB x = true) : x.1.size = 1 ∧ x.2.size ≤ 40 := by unfold letB at h; simp at h; omega
theorem lrow_cells {x : Let} (h : x.2.size ≤ 40) : Lib.strCells x.1 ++ [.int .u8 (48 + (x.2.size : Int) / 10)] ++ [.int .u8 (48 + (x.2.size : Int) % 10)] ++ Lib.strCells x.2 = Lib.byteCells (lrow x).data.toList := by
  have e1 : ((UInt8.ofNat (48 + x.2.size / 10)).toNat : Int) = 48 + (x.2.size : Int) / 10 := by
    rw [UInt8.toNat_ofNat_of_lt' (by simp [UInt8.size]; omega)]; omega
  have e2 : ((UInt8.ofNat (48 + x.2.size % 10)).toNat : Int) = 48 + (x.2.size : Int) % 10 := by
    rw [UInt8.toNat_ofNat_of_lt' (by simp [UInt8.size]; omega)]; omega
  rw [← e1, ← e2]
  unfold lrow twoD d1
  simp [Lib.strCells, Lib.byteCells, ByteArray.data_append]
theorem txts_step {l : List Let} {k : Nat} (h : k < l.length) : txts (l.take (k + 1)) = txts (l.take k) ++ (lrow l[k]).data.toList := by
  unfold txts; rw [List.take_succ_eq_append_getElem h, List.flatMap_append]; simp
theorem okAll_step {l : List Let} {k : Nat} (h : k < l.length) : okAll (l.take (k + 1)) = (okAll (l.take k) && letB l[k]) := by
  unfold okAll; rw [List.take_succ_eq_append_getElem h, List.all_append]; simp
theorem okAll_no {l : List Let} {k : Nat} (h : k < l.length) (hb : letB l[k] = false) : okAll l = false := by
  unfold okAll; rw [List.all_eq_false]; exact ⟨l[k], List.getElem_mem h, by simp [hb]⟩
theorem lrow_size {x : Let} (h : letB x = true) : (lrow x).data.toList.length ≤ 43 := by
  have := letB_sz h
  have e : (lrow x).size ≤ 43 := by unfold lrow; rw [ByteArray.size_append, ByteArray.size_append, twoD_size]; omega
  simpa using e
end Go.Proofs.YtannpeedfakhkaaDoor
