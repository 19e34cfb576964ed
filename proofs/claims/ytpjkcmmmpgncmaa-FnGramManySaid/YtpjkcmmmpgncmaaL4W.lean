import Derived.Deep.RegionHeld3
import Derived.BigQuiet
import Derived.Test.YtpjkcmmmpgncmaaM07
import Derived.Test.YtpjkcmmmpgncmaaL3M
/- The reference on what one asks: what is done to a key, the rows that are told. -/
namespace Go.Proofs.Ytpjkcmmmpgncmaa
open Go.RowKit
/-- how l4Write leaves -/
def WritePost (w : World) (e : Ending) (w' : World) : Prop := ∃ (x : Wri) (d : Int), e = .returned (.tuple #[.agg #[.string x.1, .int .i64 x.2.1, .bool x.2.2], .int .i64 d]) ∧ x.1.size ≤ maxLen ∧ 0 ≤ d ∧ d ≤ 6 ∧ Below w.heap.size w w'
theorem RK.of_own {W : World} {B c : Nat} {A : Option Addr} {l : List Row} (h : OwnR W B (.slice A l.length c) l) (hf : ∀ x ∈ l, x.1.size ≤ maxLen) : RK W A l c := RK.of h hf
set_option maxRecDepth 100000 in
set_option maxHeartbeats 4000000 in
theorem l4Write_any (A : Option Addr) (l : List Row) (c : Nat) (x : AskV) (w : World) (hn : l.length ≤ 1000) (hR : RK w A l c) (hx : x.2.1.size ≤ maxLen) :
    Calls Try.prog 227 #[.slice A l.length c, .agg #[.int .i64 x.1, .string x.2.1, .string x.2.2.1, .int .i64 x.2.2.2]] w (WritePost w) := by
  obtain ⟨ak, aa, ab, an⟩ := x
  simp only at hx ⊢
  have HXS := Lib.hid hx
  have hbE := allocAll_below w [(128, #[.int .i64 ak, .string aa, .string ab, .int .i64 an]), (46, #[.string ⟨#[]⟩, .int .i64 0, .bool false])]
  have H : Hid (SP w [(w.heap.size, 128, #[.int .i64 ak, .string aa, .string ab, .int .i64 an]), (w.heap.size + 1, 46, #[.string ⟨#[]⟩, .int .i64 0, .bool false])] [fun W => RK W A l c] ((allocAll w [(128, #[.int .i64 ak, .string aa, .string ab, .int .i64 an]), (46, #[.string ⟨#[]⟩, .int .i64 0, .bool false])]))) := Lib.hid (SP.add (SP.start w [(128, #[.int .i64 ak, .string aa, .string ab, .int .i64 an]), (46, #[.string ⟨#[]⟩, .int .i64 0, .bool false])]) _ RK.c (RK.c _ _ (Kp.below hbE) hR))
  clear hbE
  go_enter Try.func227, Try.ntmps227
  clear hR hx
  go_wp2_with fail
  change Calls _ _ _ (allocAll w [(128, #[.int .i64 ak, .string aa, .string ab, .int .i64 an]), (46, #[.string ⟨#[]⟩, .int .i64 0, .bool false])]) _
  generalize (allocAll w [(128, #[.int .i64 ak, .string aa, .string ab, .int .i64 an]), (46, #[.string ⟨#[]⟩, .int .i64 0, .bool false])]) = w0 at *
  refine (specRowsGet_any A l c aa w0 (H.out.get 0 rfl).2.1 (by omega) (H.out.get 0 rfl).sl).mono ?_
  rintro e w1 ⟨rfl, hb1⟩
  have H : Hid (SP w [(w.heap.size, 128, #[.int .i64 ak, .string aa, .string ab, .int .i64 an]), (w.heap.size + 1, 46, #[.string ⟨#[]⟩, .int .i64 0, .bool false])] [fun W => RK W A l c] w1) := Lib.hid (H.out.kept hb1)
  clear hb1
  generalize getR l aa = gr
  obtain ⟨n, ok⟩ := gr
  simp only
  have x0_0 : w1.cell? ⟨w.heap.size, 0, none⟩ = some (.int .i64 ak) := (H.out.blk 0 rfl).cell 0
  have x0_1 : w1.cell? ⟨w.heap.size, 1, none⟩ = some (.string aa) := (H.out.blk 0 rfl).cell 1
  have x0_2 : w1.cell? ⟨w.heap.size, 2, none⟩ = some (.string ab) := (H.out.blk 0 rfl).cell 2
  have x0_3 : w1.cell? ⟨w.heap.size, 3, none⟩ = some (.int .i64 an) := (H.out.blk 0 rfl).cell 3
  have x1_0 : w1.cell? ⟨w.heap.size + 1, 0, none⟩ = some (.string ⟨#[]⟩) := (H.out.blk 1 rfl).cell 0
  have x1_1 : w1.cell? ⟨w.heap.size + 1, 1, none⟩ = some (.int .i64 0) := (H.out.blk 1 rfl).cell 1
  have x1_2 : w1.cell? ⟨w.heap.size + 1, 2, none⟩ = some (.bool false) := (H.out.blk 1 rfl).cell 2
  have z1_0 := (H.out.blk 1 rfl).frozen 0
  have z1_1 := (H.out.blk 1 rfl).frozen 1
  have z1_2 := (H.out.blk 1 rfl).frozen 2
  go_wp2_with (go_at_call 105; refine (specNumOk_any _ _).mono ?_; rintro e w9 ⟨rfl, rfl⟩)
  all_goals
    first
    | (refine bodyPost_ret (v := .tuple #[.agg #[.string ⟨#[]⟩, .int .i64 0, .bool false], .int .i64 4]) ?_ rfl ⟨(⟨#[]⟩, 0, false), 4, rfl, Nat.zero_le _, by decide, by decide, (SP.setN (SP.setN (SP.setN (H.out) 1 0 (.string ⟨#[]⟩) rfl) 1 1 (.int .i64 0) rfl) 1 2 (.bool false) rfl).below⟩; (simp [results, Try.results227, go_sem, x1_0, x1_1, x1_2]; done))
    | (refine bodyPost_ret (v := .tuple #[.agg #[.string aa, .int .i64 0, .bool true], .int .i64 0]) ?_ rfl ⟨(aa, 0, true), 0, rfl, HXS.out, by decide, by decide, (SP.setN (SP.setN (SP.setN (H.out) 1 0 (.string aa) rfl) 1 1 (.int .i64 0) rfl) 1 2 (.bool true) rfl).below⟩; (simp [results, Try.results227, go_sem, x1_0, x1_1, x1_2]; done))
    | (refine bodyPost_ret (v := .tuple #[.agg #[.string ⟨#[]⟩, .int .i64 0, .bool false], .int .i64 6]) ?_ rfl ⟨(⟨#[]⟩, 0, false), 6, rfl, Nat.zero_le _, by decide, by decide, (SP.setN (SP.setN (SP.setN (H.out) 1 0 (.string ⟨#[]⟩) rfl) 1 1 (.int .i64 0) rfl) 1 2 (.bool false) rfl).below⟩; (simp [results, Try.results227, go_sem, x1_0, x1_1, x1_2]; done))
    | (refine bodyPost_ret (v := .tuple #[.agg #[.string aa, .int .i64 (wrap64 (n + an)), .bool false], .int .i64 0]) ?_ rfl ⟨(aa, (wrap64 (n + an)), false), 0, rfl, HXS.out, by decide, by decide, (SP.setN (SP.setN (SP.setN (H.out) 1 0 (.string aa) rfl) 1 1 (.int .i64 (wrap64 (n + an))) rfl) 1 2 (.bool false) rfl).below⟩; (simp [results, Try.results227, go_sem, x1_0, x1_1, x1_2]; done))
    | (refine bodyPost_ret (v := .tuple #[.agg #[.string aa, .int .i64 an, .bool false], .int .i64 0]) ?_ rfl ⟨(aa, an, false), 0, rfl, HXS.out, by decide, by decide, (SP.setN (SP.setN (SP.setN (H.out) 1 0 (.string aa) rfl) 1 1 (.int .i64 an) rfl) 1 2 (.bool false) rfl).below⟩; (simp [results, Try.results227, go_sem, x1_0, x1_1, x1_2]; done))
end Go.Proofs.Ytpjkcmmmpgncmaa
