/- Plain words: the last write of a key in rows of writes. The reference's PastLast. -/
import Derived.Test.YtfmpohhaimgnfaaWriD
import Derived.Test.YtfmpohhaimgnfaaWriSS
namespace Go.Proofs.Ytfmpohhaimgnfaa
open Go.RowKit
def upd (key : ByteArray) (o : Option Wri) (l : List Wri) : Option Wri := l.foldl (fun o x => if x.1 = key then some x else o) o
theorem upd_app (key : ByteArray) (o : Option Wri) (a b : List Wri) : upd key o (a ++ b) = upd key (upd key o a) b := by simp [upd]
theorem upd_none_of {key : ByteArray} {o : Option Wri} {l : List Wri} (h : ∀ x ∈ l, x.1 ≠ key) : upd key o l = o := by
  unfold upd
  induction l generalizing o with
  | nil => rfl
  | cons x l ih => rw [List.foldl_cons, if_neg (h x (by simp))]; exact ih (fun y hy => h y (by simp [hy]))
theorem upd_take {key : ByteArray} {o : Option Wri} {l : List Wri} {k : Nat} (h : k < l.length) : upd key o (l.take (k+1)) = if l[k].1 = key then some l[k] else upd key o (l.take k) := by
  rw [List.take_succ_eq_append_getElem h, upd_app]; simp [upd]
theorem upd_hit {key : ByteArray} {o : Option Wri} {a b : List Wri} {x : Wri} (h : ∀ y ∈ b, y.1 ≠ key) (hx : x.1 = key) : upd key o (a ++ x :: b) = some x := by
  rw [upd_app]; unfold upd; rw [List.foldl_cons, if_pos hx]; exact upd_none_of h
def lastW (key : ByteArray) (ll : List (List Wri)) : Option Wri := ll.foldl (upd key) none
theorem lastW_take {key : ByteArray} {ll : List (List Wri)} {k : Nat} (h : k < ll.length) : lastW key (ll.take (k+1)) = upd key (lastW key (ll.take k)) ll[k] := by
  unfold lastW; rw [List.take_succ_eq_append_getElem h, List.foldl_append]; rfl
def wOf (o : Option Wri) : Wri := o.getD (⟨#[]⟩, 0, false)
/-- what comes of a row, its last first -/
def backTo (l : List Wri) (k : Nat) : List (Wri × Nat) := (l.zipIdx.drop k).reverse
theorem backTo_top (l : List Wri) : backTo l l.length = [] := by simp [backTo]
theorem backTo_step (l : List Wri) (k : Nat) (h : k < l.length) : backTo l k = backTo l (k + 1) ++ [(l[k], k)] := by
  unfold backTo
  rw [List.drop_eq_getElem_cons (by simpa using h), List.reverse_cons]
  simp
theorem backTo_fst (l : List Wri) (k : Nat) : (backTo l k).map (·.1) = (l.drop k).reverse := by
  unfold backTo
  rw [List.map_reverse, List.map_drop, List.zipIdx_map_fst]
theorem backTo_len (l : List Wri) (k : Nat) : (backTo l k).length = l.length - k := by simp [backTo]
theorem upd_back {key : ByteArray} {o : Option Wri} {l : List Wri} (h : ∀ x ∈ backTo l 0, x.1.1 ≠ key) : upd key o l = o := by
  apply upd_none_of
  intro x hx
  have := backTo_fst l 0
  rw [List.drop_zero] at this
  have hm : x ∈ (backTo l 0).map (·.1) := by rw [this]; simpa using hx
  obtain ⟨y, hy, rfl⟩ := List.mem_map.1 hm
  exact h y hy
theorem upd_back_hit {key : ByteArray} {o : Option Wri} {l : List Wri} {k : Nat} {q : List (Wri × Nat)} {x : Wri × Nat} (he : q ++ [x] = backTo l k) (h : ∀ y ∈ q, y.1.1 ≠ key) (hx : x.1.1 = key) : upd key o l = some x.1 := by
  have hf := backTo_fst l k
  rw [← he, List.map_append, List.map_cons, List.map_nil] at hf
  have hd : l.drop k = x.1 :: (q.map (·.1)).reverse := by
    have := congrArg List.reverse hf
    simpa using this.symm
  rw [← List.take_append_drop k l, hd]
  apply upd_hit _ hx
  intro y hy
  rw [List.mem_reverse] at hy
  obtain ⟨z, hz, rfl⟩ := List.mem_map.1 hy
  exact h z hz
end Go.Proofs.Ytfmpohhaimgnfaa
namespace Go.Proofs.Ytfmpohhaimgnfaa
open Go.RowKit
abbrev wriA (x : Wri) : Value := .agg #[.string x.1, .int .i64 x.2.1, .bool x.2.2]
abbrev wriC (x : Wri) : Array Value := #[.string x.1, .int .i64 x.2.1, .bool x.2.2]
def lastAt (key : ByteArray) (rs : List Wrow) (t : Int) : Option Wri := lastW key ((cont rs).take t.toNat)
def lastOut (o : Option Wri) : Ending := .returned (.tuple #[wriA (wOf o), .bool o.isSome])
set_option maxHeartbeats 1000000 in
theorem specPastLast_any (A : Option Addr) (rs : List Wrow) (c : Nat) (key : ByteArray) (t : Int) (w : World) (hn : rs.length ≤ 1048576) (hn2 : ∀ r ∈ rs, r.2.2.length ≤ 1048576) (hR : Sl2 w A rs) :
    Calls Try.prog 51 #[.slice A rs.length c, .string key, .int .i64 t] w fun e w' => e = lastOut (lastAt key rs t) ∧ Below w.heap.size w w' := by
  have hbl : Below w.heap.size w ((w.alloc (.cells #[.string ⟨#[]⟩, .int .i64 0, .bool false] 61)).alloc (.cells #[.string ⟨#[]⟩, .int .i64 0, .bool false] 61)) := ((Below.refl _ _).alloc (Nat.le_refl _) _).alloc (by simp) _
  have hB6 := (Blk.new w 61 #[.string ⟨#[]⟩, .int .i64 0, .bool false]).alloc (.cells #[.string ⟨#[]⟩, .int .i64 0, .bool false] 61)
  have hB8 := Blk.new (w.alloc (.cells #[.string ⟨#[]⟩, .int .i64 0, .bool false] 61)) 61 #[.string ⟨#[]⟩, .int .i64 0, .bool false]
  rw [World.size_alloc] at hB8
  go_enter Try.func51, Try.ntmps51
  go_wp2
  go_loopw [9, 10] (fun ok i wr => ∃ k : Nat, k ≤ rs.length ∧ (k : Int) ≤ max t 0 ∧ i = .int .i64 k ∧ ok = .bool (lastW key ((cont rs).take k)).isSome ∧ Blk wr w.heap.size 61 #[.string ⟨#[]⟩, .int .i64 0, .bool false] ∧ Blk wr (w.heap.size + 1) 61 (wriC (wOf (lastW key ((cont rs).take k)))) ∧ Below w.heap.size w wr) (fun _ i _ => rs.length - (intOf i).toNat)
  case atStart => exact ⟨0, by omega, by omega, rfl, rfl, hB6, hB8, hbl⟩
  case round =>
    obtain ⟨k, hk, hkt, rfl, rfl, h6, h8, hb⟩ := hrel
    by_cases hlt : k < rs.length
    · by_cases hlt2 : (k : Int) < t
      · obtain ⟨b, o, rfl, hbl', c0, hS⟩ := (hR.below hb).at_ hlt
        have hln := hn2 rs[k] (by simp)
        have HL := Lib.hid (lastW_take (key := key) (ll := cont rs) (k := k) (by rw [cont_len]; exact hlt))
        rw [cont_get rs k hlt] at HL
        generalize hx : rs[k] = x at *
        obtain ⟨Ax, cx, lx⟩ := x
        have HX := Lib.hid hx
        clear hx
        simp only at c0 hS hln HL
        have HR := Lib.hid hR
        clear hR hn2
        generalize hacc : lastW key ((cont rs).take k) = acc at *
        have HA := Lib.hid hacc
        clear hacc
        go_wp2
        go_loopw [9, 11] (fun ok j wr => ∃ m : Nat, m ≤ lx.length ∧ j = .int .i64 m ∧ ok = .bool (upd key acc (lx.take m)).isSome ∧ Blk wr w.heap.size 61 #[.string ⟨#[]⟩, .int .i64 0, .bool false] ∧ Blk wr (w.heap.size + 1) 61 (wriC (wOf (upd key acc (lx.take m)))) ∧ Below w.heap.size w wr) (fun _ j _ => lx.length - (intOf j).toNat)
        case atStart => exact ⟨0, by omega, rfl, rfl, h6, h8, hb⟩
        case round =>
          clear h6 h8 hS hb c0 hbl'
          obtain ⟨m, hm, rfl, rfl, h6, h8, hb⟩ := hrel
          obtain ⟨b2, o2, e2, hbl', c0, hS⟩ := (HR.out.below hb).at_ hlt
          simp at e2
          obtain ⟨rfl, rfl⟩ := e2
          rw [HX.out] at c0 hS
          simp only at c0 hS
          have hz := hb.size
          by_cases hlm : m < lx.length
          · obtain ⟨b3, o3, rfl, hb3, d0, d1, d2⟩ := Sl.at3 hS hlm
            have HU := Lib.hid (upd_take (key := key) (o := acc) hlm)
            generalize lx[m] = y at *
            have z0 := h8.frozen 0
            have z1 := h8.frozen 1
            have z2 := h8.frozen 2
            have y0 := h8.at_ (i := 0) (by simp)
            have y1 := h8.at_ (i := 1) (by simp)
            have y2 := h8.at_ (i := 2) (by simp)
            by_cases hy : y.1 = key
            · have hyb : (y.1.toList == key.toList) = true := by rw [bytes_beq]; simpa using hy
              rw [if_pos hy] at HU
              have HH := Lib.hid (⟨h6, h8, hb⟩ : _ ∧ _ ∧ _)
              clear hS hy h6 h8
              go_wp2
              go_roundw
              case rel =>
                obtain ⟨h6, h8, hb⟩ := HH.out
                refine ⟨m + 1, by omega, by go_num, by rw [HU.out]; rfl, ((h6.far (by simp) _).far (by simp) _).far (by simp) _, ?_, ((hb.setCell (by simp) _).setCell (by simp) _).setCell (by simp) _⟩
                rw [HU.out]; exact h8.three _ _ _
              case measure => simp [intOf]; omega
            · have hyb : (y.1.toList == key.toList) = false := by rw [bytes_beq]; simpa using hy
              rw [if_neg hy] at HU
              clear hS hy
              go_wp2
              go_roundw
              case rel => exact ⟨m + 1, by omega, by go_num, by rw [HU.out], h6, by rw [HU.out]; exact h8, hb⟩
              case measure => simp [intOf]; omega
          · obtain rfl : m = lx.length := by omega
            rw [List.take_length] at *
            go_wp2
            go_roundw
            case rel => exact ⟨k + 1, by omega, by omega, by go_num, by rw [HL.out], h6, by rw [HL.out]; exact h8, hb⟩
            case measure => simp [intOf]; omega
      · have hle : lastAt key rs t = lastW key ((cont rs).take k) := by unfold lastAt; rw [show t.toNat = k by omega]
        have HLE := Lib.hid hle
        clear hle
        have y0 := h8.at_ (i := 0) (by simp)
        have y1 := h8.at_ (i := 1) (by simp)
        have y2 := h8.at_ (i := 2) (by simp)
        have x0 := h6.at_ (i := 0) (by simp)
        have x1 := h6.at_ (i := 1) (by simp)
        have x2 := h6.at_ (i := 2) (by simp)
        have z0 := h6.frozen 0
        have z1 := h6.frozen 1
        have z2 := h6.frozen 2
        go_wp2
        have hq := h6.three (.string (wOf (lastW key ((cont rs).take k))).1) (.int .i64 (wOf (lastW key ((cont rs).take k))).2.1) (.bool (wOf (lastW key ((cont rs).take k))).2.2)
        have q0 := hq.at_ (i := 0) (by simp)
        have q1 := hq.at_ (i := 1) (by simp)
        have q2 := hq.at_ (i := 2) (by simp)
        refine bodyPost_ret (v := .tuple #[wriA (wOf (lastW key ((cont rs).take k))), .bool (lastW key ((cont rs).take k)).isSome]) (by simp at q0 q1 q2; simp [results, Try.results51, go_sem, q0, q1, q2]) rfl ⟨by rw [HLE.out]; rfl, ((hb.setCell (by simp) _).setCell (by simp) _).setCell (by simp) _⟩
    · obtain rfl : k = rs.length := by omega
      have hle : lastAt key rs t = lastW key ((cont rs).take rs.length) := by
        unfold lastAt; rw [List.take_of_length_le (by rw [cont_len]; omega), List.take_of_length_le (by rw [cont_len]; omega)]
      have HLE := Lib.hid hle
      clear hle
      have y0 := h8.at_ (i := 0) (by simp)
      have y1 := h8.at_ (i := 1) (by simp)
      have y2 := h8.at_ (i := 2) (by simp)
      have x0 := h6.at_ (i := 0) (by simp)
      have x1 := h6.at_ (i := 1) (by simp)
      have x2 := h6.at_ (i := 2) (by simp)
      have z0 := h6.frozen 0
      have z1 := h6.frozen 1
      have z2 := h6.frozen 2
      go_wp2
      have hq := h6.three (.string (wOf (lastW key ((cont rs).take rs.length))).1) (.int .i64 (wOf (lastW key ((cont rs).take rs.length))).2.1) (.bool (wOf (lastW key ((cont rs).take rs.length))).2.2)
      have q0 := hq.at_ (i := 0) (by simp)
      have q1 := hq.at_ (i := 1) (by simp)
      have q2 := hq.at_ (i := 2) (by simp)
      refine bodyPost_ret (v := .tuple #[wriA (wOf (lastW key ((cont rs).take rs.length))), .bool (lastW key ((cont rs).take rs.length)).isSome]) (by simp at q0 q1 q2; simp [results, Try.results51, go_sem, q0, q1, q2]) rfl ⟨by rw [HLE.out]; rfl, ((hb.setCell (by simp) _).setCell (by simp) _).setCell (by simp) _⟩
end Go.Proofs.Ytfmpohhaimgnfaa
