import Derived.Deep.RegionHeld3
import Derived.Deep.RegionWith
import Derived.Deep.Cut
import Derived.Deep.DeepCutAuto
import Derived.BigQuiet
import Derived.Test.YtpjkcmmmpgncmaaL6D
import Derived.Test.YtpjkcmmmpgncmaaM28
import Derived.Test.YtpjkcmmmpgncmaaL4R
import Derived.Test.YtpjkcmmmpgncmaaM26
/- The reference's l6Prepare: something is kept under a name (bounds). -/
namespace Go.Proofs.Ytpjkcmmmpgncmaa
open Go.RowKit
/-- letters that are told -/
def LK (W : World) (A : Option Addr) (L : List Let) : Prop := SlK encLet 2 94 W A L ∧ AllL L ∧ L.length ≤ 100
theorem LK.c {A : Option Addr} {L : List Let} : KpC (fun W => LK W A L) := fun _ _ hk h => ⟨h.1.kp hk (by decide), h.2⟩
theorem LK.of {W : World} {B c : Nat} {A : Option Addr} {L : List Let} (h : OwnL W B (.slice A L.length c) L) (hf : AllL L) (hl : L.length ≤ 100) : LK W A L := ⟨SlK.of_own encLet_len h, hf, hl⟩
theorem NK.ofP {W : World} {B c : Nat} {A : Option Addr} {l : List Nm} (h : OwnN W B (.slice A l.length c) l) (hf : AllN l) (hl : l.length ≤ 4) : NK W A l := ⟨SlK.of_own encNm_len h, hf, hl⟩
theorem kFF (W : World) (o : Obj) : Below W.heap.size W (W.alloc o) := (Below.refl _ _).alloc (Nat.le_refl _) _
theorem sO : (⟨#[49]⟩ : ByteArray).size ≤ 1040000 := by decide
theorem LK.one (W : World) : LK (W.alloc (.cells #[.string ⟨#[49]⟩, .string ⟨#[]⟩] 94)) (some ⟨W.heap.size, 0, none⟩) [(⟨#[49]⟩, ⟨#[]⟩)] :=
  LK.of (B := W.heap.size) (c := 1) (own_of_blk (base := W.heap.size) (n := 1) (k := 2) (xs := [.string ⟨#[49]⟩, .string ⟨#[]⟩]) (Blk.new W _ _) (Nat.le_refl _) (by decide) rfl rfl) (fun x hx => by simp at hx; subst hx; exact ⟨sO, Nat.zero_le _⟩) (by simp)
theorem LK.oneA (W : World) (a : Nat) (ha : a = W.heap.size) : LK (W.alloc (.cells #[.string ⟨#[49]⟩, .string ⟨#[]⟩] 94)) (some ⟨a, 0, none⟩) [(⟨#[49]⟩, ⟨#[]⟩)] := by subst ha; exact LK.one W
/-- how l6Prepare leaves -/
def PrepP (w : World) (on bad : Bool) (t : Int) (A2 : Option Addr) (ws : List Wri) (c2 : Nat) (gone : Bool) (inb : ByteArray) (e : Ending) (w' : World) : Prop :=
  ∃ (A3' : Option Addr) (ns' : List Nm) (c3' : Nat) (skip' : Bool) (A4 : Option Addr) (L : List Let) (c4 : Nat), e = .returned (.tuple #[.agg #[.bool on, .bool bad, .int .i64 t, .slice A2 ws.length c2, .slice A3' ns'.length c3', .bool skip', .bool gone, .string inb], .slice A4 L.length c4]) ∧ WK w' A2 ws ∧ NK w' A3' ns' ∧ LK w' A4 L ∧ Below w.heap.size w w'
set_option maxRecDepth 100000 in
set_option maxHeartbeats 16000000 in
theorem l6Prepare_any (on bad : Bool) (t : Int) (A2 : Option Addr) (ws : List Wri) (c2 : Nat) (A3 : Option Addr) (ns : List Nm) (c3 : Nat) (skip gone : Bool) (inb bd : ByteArray) (w : World) (hW : WK w A2 ws) (hN : NK w A3 ns) (hb : bd.size ≤ 1048576) :
    Calls Try.prog 181 #[.agg #[.bool on, .bool bad, .int .i64 t, .slice A2 ws.length c2, .slice A3 ns.length c3, .bool skip, .bool gone, .string inb], .string bd] w (PrepP w on bad t A2 ws c2 gone inb) := by
  have hn4 : ns.length ≤ 4 := hN.2.2
  have HNN := Lib.hid hN.2
  have hbE := allocAll_below w [(81, #[.bool on, .bool bad, .int .i64 t, .slice A2 ws.length c2, .slice A3 ns.length c3, .bool skip, .bool gone, .string inb]), (81, #[.bool false, .bool false, .int .i64 0, .slice none 0 0, .slice none 0 0, .bool false, .bool false, .string ⟨#[]⟩])]
  have H : Hid (SP w [(w.heap.size, 81, #[.bool on, .bool bad, .int .i64 t, .slice A2 ws.length c2, .slice A3 ns.length c3, .bool skip, .bool gone, .string inb]), (w.heap.size + 1, 81, #[.bool false, .bool false, .int .i64 0, .slice none 0 0, .slice none 0 0, .bool false, .bool false, .string ⟨#[]⟩])] [fun W => WK W A2 ws, fun W => NK W A3 ns] ((allocAll w [(81, #[.bool on, .bool bad, .int .i64 t, .slice A2 ws.length c2, .slice A3 ns.length c3, .bool skip, .bool gone, .string inb]), (81, #[.bool false, .bool false, .int .i64 0, .slice none 0 0, .slice none 0 0, .bool false, .bool false, .string ⟨#[]⟩])]))) := Lib.hid (SP.add (SP.add (SP.start w [(81, #[.bool on, .bool bad, .int .i64 t, .slice A2 ws.length c2, .slice A3 ns.length c3, .bool skip, .bool gone, .string inb]), (81, #[.bool false, .bool false, .int .i64 0, .slice none 0 0, .slice none 0 0, .bool false, .bool false, .string ⟨#[]⟩])]) _ WK.c (WK.c _ _ (Kp.below hbE) hW)) _ NK.c (NK.c _ _ (Kp.below hbE) hN))
  clear hbE
  go_enter Try.func181, Try.ntmps181
  clear hW hN
  go_upto_region 2 with fail
  change Code.wp _ _ _ _ (allocAll w [(81, #[.bool on, .bool bad, .int .i64 t, .slice A2 ws.length c2, .slice A3 ns.length c3, .bool skip, .bool gone, .string inb]), (81, #[.bool false, .bool false, .int .i64 0, .slice none 0 0, .slice none 0 0, .bool false, .bool false, .string ⟨#[]⟩])])
  generalize (allocAll w [(81, #[.bool on, .bool bad, .int .i64 t, .slice A2 ws.length c2, .slice A3 ns.length c3, .bool skip, .bool gone, .string inb]), (81, #[.bool false, .bool false, .int .i64 0, .slice none 0 0, .slice none 0 0, .bool false, .bool false, .string ⟨#[]⟩])]) = w0 at *
  by_cases hb2 : 2 < bd.size
  case neg =>
    have e1 : decide ((2 : Int) < (bd.size : Int)) = false := decide_eq_false (by omega)
    have e2 : ¬ (2 : Int) < (bd.size : Int) := by omega
    obtain ⟨x0_0, x0_1, x0_2, x0_3, x0_4, x0_5, x0_6, x0_7⟩ := Blk.q8 (H.out.blk 0 rfl)
    obtain ⟨z0_0, z0_1, z0_2, z0_3, z0_4, z0_5, z0_6, z0_7⟩ := Blk.z8 (H.out.blk 0 rfl)
    go_wp2_with fail
    have H := Lib.hid (SP.set H.out 0 5 (.bool true) rfl (by decide))
    clear x0_0 x0_1 x0_2 x0_3 x0_4 x0_5 x0_6 x0_7 z0_0 z0_1 z0_2 z0_3 z0_4 z0_5 z0_6 z0_7
    generalize w0.setCell ⟨w.heap.size, 5, none⟩ (.bool true) = w8 at *
    have H : Hid (SP w [(w.heap.size, 81, #[.bool on, .bool bad, .int .i64 t, .slice A2 ws.length c2, .slice A3 ns.length c3, .bool true, .bool gone, .string inb]), (w.heap.size + 1, 81, #[.bool false, .bool false, .int .i64 0, .slice none 0 0, .slice none 0 0, .bool false, .bool false, .string ⟨#[]⟩])] [fun W => WK W A2 ws, fun W => NK W A3 ns] w8) := Lib.hid H.out
    obtain ⟨x0_0, x0_1, x0_2, x0_3, x0_4, x0_5, x0_6, x0_7⟩ := Blk.q8 (H.out.blk 0 rfl)
    obtain ⟨x1_0, x1_1, x1_2, x1_3, x1_4, x1_5, x1_6, x1_7⟩ := Blk.q8 (H.out.blk 1 rfl)
    obtain ⟨z1_0, z1_1, z1_2, z1_3, z1_4, z1_5, z1_6, z1_7⟩ := Blk.z8 (H.out.blk 1 rfl)
    replace H := Lib.hid (H.out.kept (kDB w8))
    go_region_with (go_at_call 184; refine (l6Done_any none [] 0 1 _ (by simp) (Sl.nil _ _ _ _) rowsT_nil (by decide) (by decide)).mono ?_; rintro e wz ⟨A4, L, c4, rfl, hoL, hlL, haL, hbz⟩; replace H := Lib.hid (SP.add (H.out.kept hbz) (fun W => LK W A4 L) LK.c (LK.of hoL haL (by simp at hlL; omega))); have hkk : wz.cell? ⟨w.heap.size, 0, none⟩ = some (.bool on) ∧ wz.cell? ⟨w.heap.size, 1, none⟩ = some (.bool bad) ∧ wz.cell? ⟨w.heap.size, 2, none⟩ = some (.int .i64 t) ∧ wz.cell? ⟨w.heap.size, 3, none⟩ = some (.slice A2 ws.length c2) ∧ wz.cell? ⟨w.heap.size, 4, none⟩ = some (.slice A3 ns.length c3) ∧ wz.cell? ⟨w.heap.size, 5, none⟩ = some (.bool true) ∧ wz.cell? ⟨w.heap.size, 6, none⟩ = some (.bool gone) ∧ wz.cell? ⟨w.heap.size, 7, none⟩ = some (.string inb) ∧ wz.cell? ⟨w.heap.size + 1, 0, none⟩ = some (.bool false) ∧ wz.cell? ⟨w.heap.size + 1, 1, none⟩ = some (.bool false) ∧ wz.cell? ⟨w.heap.size + 1, 2, none⟩ = some (.int .i64 0) ∧ wz.cell? ⟨w.heap.size + 1, 3, none⟩ = some (.slice none 0 0) ∧ wz.cell? ⟨w.heap.size + 1, 4, none⟩ = some (.slice none 0 0) ∧ wz.cell? ⟨w.heap.size + 1, 5, none⟩ = some (.bool false) ∧ wz.cell? ⟨w.heap.size + 1, 6, none⟩ = some (.bool false) ∧ wz.cell? ⟨w.heap.size + 1, 7, none⟩ = some (.string ⟨#[]⟩) := ⟨(H.out.blk 0 rfl).cell 0, (H.out.blk 0 rfl).cell 1, (H.out.blk 0 rfl).cell 2, (H.out.blk 0 rfl).cell 3, (H.out.blk 0 rfl).cell 4, (H.out.blk 0 rfl).cell 5, (H.out.blk 0 rfl).cell 6, (H.out.blk 0 rfl).cell 7, (H.out.blk 1 rfl).cell 0, (H.out.blk 1 rfl).cell 1, (H.out.blk 1 rfl).cell 2, (H.out.blk 1 rfl).cell 3, (H.out.blk 1 rfl).cell 4, (H.out.blk 1 rfl).cell 5, (H.out.blk 1 rfl).cell 6, (H.out.blk 1 rfl).cell 7⟩; have hfz := fun j => (H.out.blk 1 rfl).frozen j; clear hbz hoL hlL haL)
    all_goals
      obtain ⟨x0_0, x0_1, x0_2, x0_3, x0_4, x0_5, x0_6, x0_7, x1_0, x1_1, x1_2, x1_3, x1_4, x1_5, x1_6, x1_7⟩ := hkk
      go_wp2
      first
      | (have HZ := Lib.hid (SP.set (SP.set (SP.set (SP.set (SP.set (SP.set (SP.set (SP.set (H.out) 1 0 (.bool on) rfl (by decide)) 1 1 (.bool bad) rfl (by decide)) 1 2 (.int .i64 t) rfl (by decide)) 1 3 (.slice A2 ws.length c2) rfl (by decide)) 1 4 (.slice A3 ns.length c3) rfl (by decide)) 1 5 (.bool true) rfl (by decide)) 1 6 (.bool gone) rfl (by decide)) 1 7 (.string inb) rfl (by decide)); refine bodyPost_ret (v := .tuple #[.agg #[.bool on, .bool bad, .int .i64 t, .slice A2 ws.length c2, .slice A3 ns.length c3, .bool true, .bool gone, .string inb], .slice A4 L.length c4]) ?_ rfl (⟨A3, ns, c3, true, A4, L, c4, rfl, HZ.out.get 0 rfl, HZ.out.get 1 rfl, HZ.out.get 2 rfl, HZ.out.below⟩); (simp [results, Try.results181, go_sem, x1_0, x1_1, x1_2, x1_3, x1_4, x1_5, x1_6, x1_7]; done))
  have e1 : decide ((2 : Int) < (bd.size : Int)) = true := decide_eq_true (by omega)
  have e2 : (2 : Int) < (bd.size : Int) := by omega
  have e3 : 1 ≤ bd.size := by omega
  have e4 : (1 : Int) < (bd.size : Int) := by omega
  have e5 : 1 < bd.size := by omega
  have e6 : 2 ≤ bd.size := by omega
  have e7 : (1 : Int) ≤ (bd.size : Int) := by omega
  have e8 : (2 : Int) ≤ (bd.size : Int) := by omega
  have hx1 : (bd.extract 0 1).size ≤ 10 := by rw [ByteArray.size_extract]; omega
  have hx2 : (bd.extract 2 bd.size).size ≤ 1048576 := by rw [ByteArray.size_extract]; omega
  have HX := Lib.hid (⟨hx1, hx2⟩ : _ ∧ _)
  clear hx1 hx2
  go_wp2_with fail
  refine (l6Name_any _ _).mono ?_
  rintro e wn ⟨v, rfl, rfl⟩
  cases v
  case false =>
    obtain ⟨x0_0, x0_1, x0_2, x0_3, x0_4, x0_5, x0_6, x0_7⟩ := Blk.q8 (H.out.blk 0 rfl)
    obtain ⟨z0_0, z0_1, z0_2, z0_3, z0_4, z0_5, z0_6, z0_7⟩ := Blk.z8 (H.out.blk 0 rfl)
    go_wp2_with fail
    have H := Lib.hid (SP.set H.out 0 5 (.bool true) rfl (by decide))
    clear x0_0 x0_1 x0_2 x0_3 x0_4 x0_5 x0_6 x0_7 z0_0 z0_1 z0_2 z0_3 z0_4 z0_5 z0_6 z0_7
    generalize w0.setCell ⟨w.heap.size, 5, none⟩ (.bool true) = w8 at *
    have H : Hid (SP w [(w.heap.size, 81, #[.bool on, .bool bad, .int .i64 t, .slice A2 ws.length c2, .slice A3 ns.length c3, .bool true, .bool gone, .string inb]), (w.heap.size + 1, 81, #[.bool false, .bool false, .int .i64 0, .slice none 0 0, .slice none 0 0, .bool false, .bool false, .string ⟨#[]⟩])] [fun W => WK W A2 ws, fun W => NK W A3 ns] w8) := Lib.hid H.out
    obtain ⟨x0_0, x0_1, x0_2, x0_3, x0_4, x0_5, x0_6, x0_7⟩ := Blk.q8 (H.out.blk 0 rfl)
    obtain ⟨x1_0, x1_1, x1_2, x1_3, x1_4, x1_5, x1_6, x1_7⟩ := Blk.q8 (H.out.blk 1 rfl)
    obtain ⟨z1_0, z1_1, z1_2, z1_3, z1_4, z1_5, z1_6, z1_7⟩ := Blk.z8 (H.out.blk 1 rfl)
    replace H := Lib.hid (H.out.kept (kDB w8))
    go_region_with (go_at_call 184; refine (l6Done_any none [] 0 1 _ (by simp) (Sl.nil _ _ _ _) rowsT_nil (by decide) (by decide)).mono ?_; rintro e wz ⟨A4, L, c4, rfl, hoL, hlL, haL, hbz⟩; replace H := Lib.hid (SP.add (H.out.kept hbz) (fun W => LK W A4 L) LK.c (LK.of hoL haL (by simp at hlL; omega))); have hkk : wz.cell? ⟨w.heap.size, 0, none⟩ = some (.bool on) ∧ wz.cell? ⟨w.heap.size, 1, none⟩ = some (.bool bad) ∧ wz.cell? ⟨w.heap.size, 2, none⟩ = some (.int .i64 t) ∧ wz.cell? ⟨w.heap.size, 3, none⟩ = some (.slice A2 ws.length c2) ∧ wz.cell? ⟨w.heap.size, 4, none⟩ = some (.slice A3 ns.length c3) ∧ wz.cell? ⟨w.heap.size, 5, none⟩ = some (.bool true) ∧ wz.cell? ⟨w.heap.size, 6, none⟩ = some (.bool gone) ∧ wz.cell? ⟨w.heap.size, 7, none⟩ = some (.string inb) ∧ wz.cell? ⟨w.heap.size + 1, 0, none⟩ = some (.bool false) ∧ wz.cell? ⟨w.heap.size + 1, 1, none⟩ = some (.bool false) ∧ wz.cell? ⟨w.heap.size + 1, 2, none⟩ = some (.int .i64 0) ∧ wz.cell? ⟨w.heap.size + 1, 3, none⟩ = some (.slice none 0 0) ∧ wz.cell? ⟨w.heap.size + 1, 4, none⟩ = some (.slice none 0 0) ∧ wz.cell? ⟨w.heap.size + 1, 5, none⟩ = some (.bool false) ∧ wz.cell? ⟨w.heap.size + 1, 6, none⟩ = some (.bool false) ∧ wz.cell? ⟨w.heap.size + 1, 7, none⟩ = some (.string ⟨#[]⟩) := ⟨(H.out.blk 0 rfl).cell 0, (H.out.blk 0 rfl).cell 1, (H.out.blk 0 rfl).cell 2, (H.out.blk 0 rfl).cell 3, (H.out.blk 0 rfl).cell 4, (H.out.blk 0 rfl).cell 5, (H.out.blk 0 rfl).cell 6, (H.out.blk 0 rfl).cell 7, (H.out.blk 1 rfl).cell 0, (H.out.blk 1 rfl).cell 1, (H.out.blk 1 rfl).cell 2, (H.out.blk 1 rfl).cell 3, (H.out.blk 1 rfl).cell 4, (H.out.blk 1 rfl).cell 5, (H.out.blk 1 rfl).cell 6, (H.out.blk 1 rfl).cell 7⟩; have hfz := fun j => (H.out.blk 1 rfl).frozen j; clear hbz hoL hlL haL)
    all_goals
      obtain ⟨x0_0, x0_1, x0_2, x0_3, x0_4, x0_5, x0_6, x0_7, x1_0, x1_1, x1_2, x1_3, x1_4, x1_5, x1_6, x1_7⟩ := hkk
      go_wp2
      first
      | (have HZ := Lib.hid (SP.set (SP.set (SP.set (SP.set (SP.set (SP.set (SP.set (SP.set (H.out) 1 0 (.bool on) rfl (by decide)) 1 1 (.bool bad) rfl (by decide)) 1 2 (.int .i64 t) rfl (by decide)) 1 3 (.slice A2 ws.length c2) rfl (by decide)) 1 4 (.slice A3 ns.length c3) rfl (by decide)) 1 5 (.bool true) rfl (by decide)) 1 6 (.bool gone) rfl (by decide)) 1 7 (.string inb) rfl (by decide)); refine bodyPost_ret (v := .tuple #[.agg #[.bool on, .bool bad, .int .i64 t, .slice A2 ws.length c2, .slice A3 ns.length c3, .bool true, .bool gone, .string inb], .slice A4 L.length c4]) ?_ rfl (⟨A3, ns, c3, true, A4, L, c4, rfl, HZ.out.get 0 rfl, HZ.out.get 1 rfl, HZ.out.get 2 rfl, HZ.out.below⟩); (simp [results, Try.results181, go_sem, x1_0, x1_1, x1_2, x1_3, x1_4, x1_5, x1_6, x1_7]; done))
  cases hq : (((bd[1]'e5).toNat : Int) == 32)
  case false =>
    obtain ⟨x0_0, x0_1, x0_2, x0_3, x0_4, x0_5, x0_6, x0_7⟩ := Blk.q8 (H.out.blk 0 rfl)
    obtain ⟨z0_0, z0_1, z0_2, z0_3, z0_4, z0_5, z0_6, z0_7⟩ := Blk.z8 (H.out.blk 0 rfl)
    go_wp2_with fail
    have H := Lib.hid (SP.set H.out 0 5 (.bool true) rfl (by decide))
    clear x0_0 x0_1 x0_2 x0_3 x0_4 x0_5 x0_6 x0_7 z0_0 z0_1 z0_2 z0_3 z0_4 z0_5 z0_6 z0_7
    generalize w0.setCell ⟨w.heap.size, 5, none⟩ (.bool true) = w8 at *
    have H : Hid (SP w [(w.heap.size, 81, #[.bool on, .bool bad, .int .i64 t, .slice A2 ws.length c2, .slice A3 ns.length c3, .bool true, .bool gone, .string inb]), (w.heap.size + 1, 81, #[.bool false, .bool false, .int .i64 0, .slice none 0 0, .slice none 0 0, .bool false, .bool false, .string ⟨#[]⟩])] [fun W => WK W A2 ws, fun W => NK W A3 ns] w8) := Lib.hid H.out
    obtain ⟨x0_0, x0_1, x0_2, x0_3, x0_4, x0_5, x0_6, x0_7⟩ := Blk.q8 (H.out.blk 0 rfl)
    obtain ⟨x1_0, x1_1, x1_2, x1_3, x1_4, x1_5, x1_6, x1_7⟩ := Blk.q8 (H.out.blk 1 rfl)
    obtain ⟨z1_0, z1_1, z1_2, z1_3, z1_4, z1_5, z1_6, z1_7⟩ := Blk.z8 (H.out.blk 1 rfl)
    replace H := Lib.hid (H.out.kept (kDB w8))
    go_region_with (go_at_call 184; refine (l6Done_any none [] 0 1 _ (by simp) (Sl.nil _ _ _ _) rowsT_nil (by decide) (by decide)).mono ?_; rintro e wz ⟨A4, L, c4, rfl, hoL, hlL, haL, hbz⟩; replace H := Lib.hid (SP.add (H.out.kept hbz) (fun W => LK W A4 L) LK.c (LK.of hoL haL (by simp at hlL; omega))); have hkk : wz.cell? ⟨w.heap.size, 0, none⟩ = some (.bool on) ∧ wz.cell? ⟨w.heap.size, 1, none⟩ = some (.bool bad) ∧ wz.cell? ⟨w.heap.size, 2, none⟩ = some (.int .i64 t) ∧ wz.cell? ⟨w.heap.size, 3, none⟩ = some (.slice A2 ws.length c2) ∧ wz.cell? ⟨w.heap.size, 4, none⟩ = some (.slice A3 ns.length c3) ∧ wz.cell? ⟨w.heap.size, 5, none⟩ = some (.bool true) ∧ wz.cell? ⟨w.heap.size, 6, none⟩ = some (.bool gone) ∧ wz.cell? ⟨w.heap.size, 7, none⟩ = some (.string inb) ∧ wz.cell? ⟨w.heap.size + 1, 0, none⟩ = some (.bool false) ∧ wz.cell? ⟨w.heap.size + 1, 1, none⟩ = some (.bool false) ∧ wz.cell? ⟨w.heap.size + 1, 2, none⟩ = some (.int .i64 0) ∧ wz.cell? ⟨w.heap.size + 1, 3, none⟩ = some (.slice none 0 0) ∧ wz.cell? ⟨w.heap.size + 1, 4, none⟩ = some (.slice none 0 0) ∧ wz.cell? ⟨w.heap.size + 1, 5, none⟩ = some (.bool false) ∧ wz.cell? ⟨w.heap.size + 1, 6, none⟩ = some (.bool false) ∧ wz.cell? ⟨w.heap.size + 1, 7, none⟩ = some (.string ⟨#[]⟩) := ⟨(H.out.blk 0 rfl).cell 0, (H.out.blk 0 rfl).cell 1, (H.out.blk 0 rfl).cell 2, (H.out.blk 0 rfl).cell 3, (H.out.blk 0 rfl).cell 4, (H.out.blk 0 rfl).cell 5, (H.out.blk 0 rfl).cell 6, (H.out.blk 0 rfl).cell 7, (H.out.blk 1 rfl).cell 0, (H.out.blk 1 rfl).cell 1, (H.out.blk 1 rfl).cell 2, (H.out.blk 1 rfl).cell 3, (H.out.blk 1 rfl).cell 4, (H.out.blk 1 rfl).cell 5, (H.out.blk 1 rfl).cell 6, (H.out.blk 1 rfl).cell 7⟩; have hfz := fun j => (H.out.blk 1 rfl).frozen j; clear hbz hoL hlL haL)
    all_goals
      obtain ⟨x0_0, x0_1, x0_2, x0_3, x0_4, x0_5, x0_6, x0_7, x1_0, x1_1, x1_2, x1_3, x1_4, x1_5, x1_6, x1_7⟩ := hkk
      go_wp2
      first
      | (have HZ := Lib.hid (SP.set (SP.set (SP.set (SP.set (SP.set (SP.set (SP.set (SP.set (H.out) 1 0 (.bool on) rfl (by decide)) 1 1 (.bool bad) rfl (by decide)) 1 2 (.int .i64 t) rfl (by decide)) 1 3 (.slice A2 ws.length c2) rfl (by decide)) 1 4 (.slice A3 ns.length c3) rfl (by decide)) 1 5 (.bool true) rfl (by decide)) 1 6 (.bool gone) rfl (by decide)) 1 7 (.string inb) rfl (by decide)); refine bodyPost_ret (v := .tuple #[.agg #[.bool on, .bool bad, .int .i64 t, .slice A2 ws.length c2, .slice A3 ns.length c3, .bool true, .bool gone, .string inb], .slice A4 L.length c4]) ?_ rfl (⟨A3, ns, c3, true, A4, L, c4, rfl, HZ.out.get 0 rfl, HZ.out.get 1 rfl, HZ.out.get 2 rfl, HZ.out.below⟩); (simp [results, Try.results181, go_sem, x1_0, x1_1, x1_2, x1_3, x1_4, x1_5, x1_6, x1_7]; done))
  go_wp2_with fail
  refine (askRead_any _ _ HX.out.2).mono ?_
  rintro e w1 ⟨⟨xk, xa, xb, xn⟩, ok, rfl, hxa, hxb, hb1⟩
  simp only
  replace H := Lib.hid (H.out.kept hb1)
  clear hb1
  have HXA := Lib.hid (⟨hxa, hxb⟩ : _ ∧ _)
  clear hxa hxb
  go_upto_region 4 with fail
  have H := Lib.hid (H.out.alloc 128 #[.int .i64 xk, .string xa, .string xb, .int .i64 xn])
  generalize w1.alloc (.cells #[.int .i64 xk, .string xa, .string xb, .int .i64 xn] 128) = w3 at *
  have H : Hid (SP w [(w.heap.size, 81, #[.bool on, .bool bad, .int .i64 t, .slice A2 ws.length c2, .slice A3 ns.length c3, .bool skip, .bool gone, .string inb]), (w.heap.size + 1, 81, #[.bool false, .bool false, .int .i64 0, .slice none 0 0, .slice none 0 0, .bool false, .bool false, .string ⟨#[]⟩]), (w1.heap.size, 128, #[.int .i64 xk, .string xa, .string xb, .int .i64 xn])] [fun W => WK W A2 ws, fun W => NK W A3 ns] w3) := Lib.hid H.out
  generalize w1.heap.size = g3 at *
  obtain ⟨x0_0, x0_1, x0_2, x0_3, x0_4, x0_5, x0_6, x0_7⟩ := Blk.q8 (H.out.blk 0 rfl)
  obtain ⟨x2_0, x2_1, x2_2, x2_3⟩ := Blk.q4 (H.out.blk 2 rfl)
  have l0 := (H.out.blk 0 rfl).lt
  have l2 := (H.out.blk 2 rfl).lt
  replace H := Lib.hid (H.out.kept (kDB w3))
  go_region_held3 (fun W => W.cell? ⟨w.heap.size, 4, none⟩ = some (.slice A3 ns.length c3) ∧ W.cell? ⟨g3, 0, none⟩ = some (.int .i64 xk) ∧ W.cell? ⟨g3, 1, none⟩ = some (.string xa) ∧ W.cell? ⟨g3, 2, none⟩ = some (.string xb) ∧ W.cell? ⟨g3, 3, none⟩ = some (.int .i64 xn))
    (first | (with_reducible assumption) | go_keep)
    (first
      | (go_at_call 211
         refine (l6Put_any A3 ns c3 (bd.extract 0 1, xk, xa, xb, xn) _ (by omega) HNN.out.1 ⟨HX.out.1, HXA.out.1, HXA.out.2⟩ (NK.sl (H.out.get 1 rfl))).mono ?_
         rintro e wk ⟨A5, c5, L5, rfl, ho5, hl5, hf5, hbk⟩
         replace H := Lib.hid (H.out.kept hbk)
         have HO := Lib.hid (⟨ho5, hl5, hf5⟩ : _ ∧ _ ∧ _)
         have hkk : wk.cell? ⟨w.heap.size, 4, none⟩ = some (.slice A3 ns.length c3) ∧ wk.cell? ⟨g3, 0, none⟩ = some (.int .i64 xk) ∧ wk.cell? ⟨g3, 1, none⟩ = some (.string xa) ∧ wk.cell? ⟨g3, 2, none⟩ = some (.string xb) ∧ wk.cell? ⟨g3, 3, none⟩ = some (.int .i64 xn) := ⟨(H.out.blk 0 rfl).cell 4, (H.out.blk 2 rfl).cell 0, (H.out.blk 2 rfl).cell 1, (H.out.blk 2 rfl).cell 2, (H.out.blk 2 rfl).cell 3⟩
         clear hbk ho5 hl5 hf5))
  all_goals
    clear x0_0 x0_1 x0_2 x0_3 x0_4 x0_5 x0_6 x0_7 x2_0 x2_1 x2_2 x2_3 l0 l2 hkk
    by_cases h3 : 3 < L5.length
    case pos =>
      have h3i : (3 : Int) < (L5.length : Int) := by omega
      clear HO
      cases ok
      case false =>
        obtain ⟨x0_0, x0_1, x0_2, x0_3, x0_4, x0_5, x0_6, x0_7⟩ := Blk.q8 (H.out.blk 0 rfl)
        obtain ⟨z0_0, z0_1, z0_2, z0_3, z0_4, z0_5, z0_6, z0_7⟩ := Blk.z8 (H.out.blk 0 rfl)
        go_wp2_with fail
        have H := Lib.hid (SP.set H.out 0 5 (.bool true) rfl (by decide))
        clear x0_0 x0_1 x0_2 x0_3 x0_4 x0_5 x0_6 x0_7 z0_0 z0_1 z0_2 z0_3 z0_4 z0_5 z0_6 z0_7
        generalize wk.setCell ⟨w.heap.size, 5, none⟩ (.bool true) = w8 at *
        have H : Hid (SP w [(w.heap.size, 81, #[.bool on, .bool bad, .int .i64 t, .slice A2 ws.length c2, .slice A3 ns.length c3, .bool true, .bool gone, .string inb]), (w.heap.size + 1, 81, #[.bool false, .bool false, .int .i64 0, .slice none 0 0, .slice none 0 0, .bool false, .bool false, .string ⟨#[]⟩]), (g3, 128, #[.int .i64 xk, .string xa, .string xb, .int .i64 xn])] [fun W => WK W A2 ws, fun W => NK W A3 ns] w8) := Lib.hid H.out
        obtain ⟨x0_0, x0_1, x0_2, x0_3, x0_4, x0_5, x0_6, x0_7⟩ := Blk.q8 (H.out.blk 0 rfl)
        obtain ⟨x1_0, x1_1, x1_2, x1_3, x1_4, x1_5, x1_6, x1_7⟩ := Blk.q8 (H.out.blk 1 rfl)
        obtain ⟨z1_0, z1_1, z1_2, z1_3, z1_4, z1_5, z1_6, z1_7⟩ := Blk.z8 (H.out.blk 1 rfl)
        replace H := Lib.hid (H.out.kept (kDB w8))
        go_region_with (go_at_call 184; refine (l6Done_any none [] 0 1 _ (by simp) (Sl.nil _ _ _ _) rowsT_nil (by decide) (by decide)).mono ?_; rintro e wz ⟨A4, L, c4, rfl, hoL, hlL, haL, hbz⟩; replace H := Lib.hid (SP.add (H.out.kept hbz) (fun W => LK W A4 L) LK.c (LK.of hoL haL (by simp at hlL; omega))); have hkk : wz.cell? ⟨w.heap.size, 0, none⟩ = some (.bool on) ∧ wz.cell? ⟨w.heap.size, 1, none⟩ = some (.bool bad) ∧ wz.cell? ⟨w.heap.size, 2, none⟩ = some (.int .i64 t) ∧ wz.cell? ⟨w.heap.size, 3, none⟩ = some (.slice A2 ws.length c2) ∧ wz.cell? ⟨w.heap.size, 4, none⟩ = some (.slice A3 ns.length c3) ∧ wz.cell? ⟨w.heap.size, 5, none⟩ = some (.bool true) ∧ wz.cell? ⟨w.heap.size, 6, none⟩ = some (.bool gone) ∧ wz.cell? ⟨w.heap.size, 7, none⟩ = some (.string inb) ∧ wz.cell? ⟨w.heap.size + 1, 0, none⟩ = some (.bool false) ∧ wz.cell? ⟨w.heap.size + 1, 1, none⟩ = some (.bool false) ∧ wz.cell? ⟨w.heap.size + 1, 2, none⟩ = some (.int .i64 0) ∧ wz.cell? ⟨w.heap.size + 1, 3, none⟩ = some (.slice none 0 0) ∧ wz.cell? ⟨w.heap.size + 1, 4, none⟩ = some (.slice none 0 0) ∧ wz.cell? ⟨w.heap.size + 1, 5, none⟩ = some (.bool false) ∧ wz.cell? ⟨w.heap.size + 1, 6, none⟩ = some (.bool false) ∧ wz.cell? ⟨w.heap.size + 1, 7, none⟩ = some (.string ⟨#[]⟩) := ⟨(H.out.blk 0 rfl).cell 0, (H.out.blk 0 rfl).cell 1, (H.out.blk 0 rfl).cell 2, (H.out.blk 0 rfl).cell 3, (H.out.blk 0 rfl).cell 4, (H.out.blk 0 rfl).cell 5, (H.out.blk 0 rfl).cell 6, (H.out.blk 0 rfl).cell 7, (H.out.blk 1 rfl).cell 0, (H.out.blk 1 rfl).cell 1, (H.out.blk 1 rfl).cell 2, (H.out.blk 1 rfl).cell 3, (H.out.blk 1 rfl).cell 4, (H.out.blk 1 rfl).cell 5, (H.out.blk 1 rfl).cell 6, (H.out.blk 1 rfl).cell 7⟩; have hfz := fun j => (H.out.blk 1 rfl).frozen j; clear hbz hoL hlL haL)
        all_goals
          obtain ⟨x0_0, x0_1, x0_2, x0_3, x0_4, x0_5, x0_6, x0_7, x1_0, x1_1, x1_2, x1_3, x1_4, x1_5, x1_6, x1_7⟩ := hkk
          go_wp2
          first
          | (have HZ := Lib.hid (SP.set (SP.set (SP.set (SP.set (SP.set (SP.set (SP.set (SP.set (H.out) 1 0 (.bool on) rfl (by decide)) 1 1 (.bool bad) rfl (by decide)) 1 2 (.int .i64 t) rfl (by decide)) 1 3 (.slice A2 ws.length c2) rfl (by decide)) 1 4 (.slice A3 ns.length c3) rfl (by decide)) 1 5 (.bool true) rfl (by decide)) 1 6 (.bool gone) rfl (by decide)) 1 7 (.string inb) rfl (by decide)); refine bodyPost_ret (v := .tuple #[.agg #[.bool on, .bool bad, .int .i64 t, .slice A2 ws.length c2, .slice A3 ns.length c3, .bool true, .bool gone, .string inb], .slice A4 L.length c4]) ?_ rfl (⟨A3, ns, c3, true, A4, L, c4, rfl, HZ.out.get 0 rfl, HZ.out.get 1 rfl, HZ.out.get 2 rfl, HZ.out.below⟩); (simp [results, Try.results181, go_sem, x1_0, x1_1, x1_2, x1_3, x1_4, x1_5, x1_6, x1_7]; done))
      obtain ⟨x0_0, x0_1, x0_2, x0_3, x0_4, x0_5, x0_6, x0_7⟩ := Blk.q8 (H.out.blk 0 rfl)
      obtain ⟨z0_0, z0_1, z0_2, z0_3, z0_4, z0_5, z0_6, z0_7⟩ := Blk.z8 (H.out.blk 0 rfl)
      go_wp2_with fail
      have H := Lib.hid (SP.set H.out 0 5 (.bool true) rfl (by decide))
      clear x0_0 x0_1 x0_2 x0_3 x0_4 x0_5 x0_6 x0_7 z0_0 z0_1 z0_2 z0_3 z0_4 z0_5 z0_6 z0_7
      generalize wk.setCell ⟨w.heap.size, 5, none⟩ (.bool true) = w8 at *
      have H : Hid (SP w [(w.heap.size, 81, #[.bool on, .bool bad, .int .i64 t, .slice A2 ws.length c2, .slice A3 ns.length c3, .bool true, .bool gone, .string inb]), (w.heap.size + 1, 81, #[.bool false, .bool false, .int .i64 0, .slice none 0 0, .slice none 0 0, .bool false, .bool false, .string ⟨#[]⟩]), (g3, 128, #[.int .i64 xk, .string xa, .string xb, .int .i64 xn])] [fun W => WK W A2 ws, fun W => NK W A3 ns] w8) := Lib.hid H.out
      obtain ⟨x0_0, x0_1, x0_2, x0_3, x0_4, x0_5, x0_6, x0_7⟩ := Blk.q8 (H.out.blk 0 rfl)
      obtain ⟨x1_0, x1_1, x1_2, x1_3, x1_4, x1_5, x1_6, x1_7⟩ := Blk.q8 (H.out.blk 1 rfl)
      obtain ⟨z1_0, z1_1, z1_2, z1_3, z1_4, z1_5, z1_6, z1_7⟩ := Blk.z8 (H.out.blk 1 rfl)
      replace H := Lib.hid (H.out.kept (kDB w8))
      go_region_with (go_at_call 184; refine (l6Done_any none [] 0 3 _ (by simp) (Sl.nil _ _ _ _) rowsT_nil (by decide) (by decide)).mono ?_; rintro e wz ⟨A4, L, c4, rfl, hoL, hlL, haL, hbz⟩; replace H := Lib.hid (SP.add (H.out.kept hbz) (fun W => LK W A4 L) LK.c (LK.of hoL haL (by simp at hlL; omega))); have hkk : wz.cell? ⟨w.heap.size, 0, none⟩ = some (.bool on) ∧ wz.cell? ⟨w.heap.size, 1, none⟩ = some (.bool bad) ∧ wz.cell? ⟨w.heap.size, 2, none⟩ = some (.int .i64 t) ∧ wz.cell? ⟨w.heap.size, 3, none⟩ = some (.slice A2 ws.length c2) ∧ wz.cell? ⟨w.heap.size, 4, none⟩ = some (.slice A3 ns.length c3) ∧ wz.cell? ⟨w.heap.size, 5, none⟩ = some (.bool true) ∧ wz.cell? ⟨w.heap.size, 6, none⟩ = some (.bool gone) ∧ wz.cell? ⟨w.heap.size, 7, none⟩ = some (.string inb) ∧ wz.cell? ⟨w.heap.size + 1, 0, none⟩ = some (.bool false) ∧ wz.cell? ⟨w.heap.size + 1, 1, none⟩ = some (.bool false) ∧ wz.cell? ⟨w.heap.size + 1, 2, none⟩ = some (.int .i64 0) ∧ wz.cell? ⟨w.heap.size + 1, 3, none⟩ = some (.slice none 0 0) ∧ wz.cell? ⟨w.heap.size + 1, 4, none⟩ = some (.slice none 0 0) ∧ wz.cell? ⟨w.heap.size + 1, 5, none⟩ = some (.bool false) ∧ wz.cell? ⟨w.heap.size + 1, 6, none⟩ = some (.bool false) ∧ wz.cell? ⟨w.heap.size + 1, 7, none⟩ = some (.string ⟨#[]⟩) := ⟨(H.out.blk 0 rfl).cell 0, (H.out.blk 0 rfl).cell 1, (H.out.blk 0 rfl).cell 2, (H.out.blk 0 rfl).cell 3, (H.out.blk 0 rfl).cell 4, (H.out.blk 0 rfl).cell 5, (H.out.blk 0 rfl).cell 6, (H.out.blk 0 rfl).cell 7, (H.out.blk 1 rfl).cell 0, (H.out.blk 1 rfl).cell 1, (H.out.blk 1 rfl).cell 2, (H.out.blk 1 rfl).cell 3, (H.out.blk 1 rfl).cell 4, (H.out.blk 1 rfl).cell 5, (H.out.blk 1 rfl).cell 6, (H.out.blk 1 rfl).cell 7⟩; have hfz := fun j => (H.out.blk 1 rfl).frozen j; clear hbz hoL hlL haL)
      all_goals
        obtain ⟨x0_0, x0_1, x0_2, x0_3, x0_4, x0_5, x0_6, x0_7, x1_0, x1_1, x1_2, x1_3, x1_4, x1_5, x1_6, x1_7⟩ := hkk
        go_wp2
        first
        | (have HZ := Lib.hid (SP.set (SP.set (SP.set (SP.set (SP.set (SP.set (SP.set (SP.set (H.out) 1 0 (.bool on) rfl (by decide)) 1 1 (.bool bad) rfl (by decide)) 1 2 (.int .i64 t) rfl (by decide)) 1 3 (.slice A2 ws.length c2) rfl (by decide)) 1 4 (.slice A3 ns.length c3) rfl (by decide)) 1 5 (.bool true) rfl (by decide)) 1 6 (.bool gone) rfl (by decide)) 1 7 (.string inb) rfl (by decide)); refine bodyPost_ret (v := .tuple #[.agg #[.bool on, .bool bad, .int .i64 t, .slice A2 ws.length c2, .slice A3 ns.length c3, .bool true, .bool gone, .string inb], .slice A4 L.length c4]) ?_ rfl (⟨A3, ns, c3, true, A4, L, c4, rfl, HZ.out.get 0 rfl, HZ.out.get 1 rfl, HZ.out.get 2 rfl, HZ.out.below⟩); (simp [results, Try.results181, go_sem, x1_0, x1_1, x1_2, x1_3, x1_4, x1_5, x1_6, x1_7]; done))
    have h3i : ¬ (3 : Int) < (L5.length : Int) := by omega
    have h3j : decide ((3 : Int) < (L5.length : Int)) = false := decide_eq_false h3i
    cases ok
    case false =>
      obtain ⟨x0_0, x0_1, x0_2, x0_3, x0_4, x0_5, x0_6, x0_7⟩ := Blk.q8 (H.out.blk 0 rfl)
      obtain ⟨z0_0, z0_1, z0_2, z0_3, z0_4, z0_5, z0_6, z0_7⟩ := Blk.z8 (H.out.blk 0 rfl)
      go_wp2_with fail
      have H := Lib.hid (SP.set H.out 0 5 (.bool true) rfl (by decide))
      clear x0_0 x0_1 x0_2 x0_3 x0_4 x0_5 x0_6 x0_7 z0_0 z0_1 z0_2 z0_3 z0_4 z0_5 z0_6 z0_7
      generalize wk.setCell ⟨w.heap.size, 5, none⟩ (.bool true) = w8 at *
      have H : Hid (SP w [(w.heap.size, 81, #[.bool on, .bool bad, .int .i64 t, .slice A2 ws.length c2, .slice A3 ns.length c3, .bool true, .bool gone, .string inb]), (w.heap.size + 1, 81, #[.bool false, .bool false, .int .i64 0, .slice none 0 0, .slice none 0 0, .bool false, .bool false, .string ⟨#[]⟩]), (g3, 128, #[.int .i64 xk, .string xa, .string xb, .int .i64 xn])] [fun W => WK W A2 ws, fun W => NK W A3 ns] w8) := Lib.hid H.out
      obtain ⟨x0_0, x0_1, x0_2, x0_3, x0_4, x0_5, x0_6, x0_7⟩ := Blk.q8 (H.out.blk 0 rfl)
      obtain ⟨x1_0, x1_1, x1_2, x1_3, x1_4, x1_5, x1_6, x1_7⟩ := Blk.q8 (H.out.blk 1 rfl)
      obtain ⟨z1_0, z1_1, z1_2, z1_3, z1_4, z1_5, z1_6, z1_7⟩ := Blk.z8 (H.out.blk 1 rfl)
      replace H := Lib.hid (H.out.kept (kDB w8))
      go_region_with (go_at_call 184; refine (l6Done_any none [] 0 1 _ (by simp) (Sl.nil _ _ _ _) rowsT_nil (by decide) (by decide)).mono ?_; rintro e wz ⟨A4, L, c4, rfl, hoL, hlL, haL, hbz⟩; replace H := Lib.hid (SP.add (H.out.kept hbz) (fun W => LK W A4 L) LK.c (LK.of hoL haL (by simp at hlL; omega))); have hkk : wz.cell? ⟨w.heap.size, 0, none⟩ = some (.bool on) ∧ wz.cell? ⟨w.heap.size, 1, none⟩ = some (.bool bad) ∧ wz.cell? ⟨w.heap.size, 2, none⟩ = some (.int .i64 t) ∧ wz.cell? ⟨w.heap.size, 3, none⟩ = some (.slice A2 ws.length c2) ∧ wz.cell? ⟨w.heap.size, 4, none⟩ = some (.slice A3 ns.length c3) ∧ wz.cell? ⟨w.heap.size, 5, none⟩ = some (.bool true) ∧ wz.cell? ⟨w.heap.size, 6, none⟩ = some (.bool gone) ∧ wz.cell? ⟨w.heap.size, 7, none⟩ = some (.string inb) ∧ wz.cell? ⟨w.heap.size + 1, 0, none⟩ = some (.bool false) ∧ wz.cell? ⟨w.heap.size + 1, 1, none⟩ = some (.bool false) ∧ wz.cell? ⟨w.heap.size + 1, 2, none⟩ = some (.int .i64 0) ∧ wz.cell? ⟨w.heap.size + 1, 3, none⟩ = some (.slice none 0 0) ∧ wz.cell? ⟨w.heap.size + 1, 4, none⟩ = some (.slice none 0 0) ∧ wz.cell? ⟨w.heap.size + 1, 5, none⟩ = some (.bool false) ∧ wz.cell? ⟨w.heap.size + 1, 6, none⟩ = some (.bool false) ∧ wz.cell? ⟨w.heap.size + 1, 7, none⟩ = some (.string ⟨#[]⟩) := ⟨(H.out.blk 0 rfl).cell 0, (H.out.blk 0 rfl).cell 1, (H.out.blk 0 rfl).cell 2, (H.out.blk 0 rfl).cell 3, (H.out.blk 0 rfl).cell 4, (H.out.blk 0 rfl).cell 5, (H.out.blk 0 rfl).cell 6, (H.out.blk 0 rfl).cell 7, (H.out.blk 1 rfl).cell 0, (H.out.blk 1 rfl).cell 1, (H.out.blk 1 rfl).cell 2, (H.out.blk 1 rfl).cell 3, (H.out.blk 1 rfl).cell 4, (H.out.blk 1 rfl).cell 5, (H.out.blk 1 rfl).cell 6, (H.out.blk 1 rfl).cell 7⟩; have hfz := fun j => (H.out.blk 1 rfl).frozen j; clear hbz hoL hlL haL)
      all_goals
        obtain ⟨x0_0, x0_1, x0_2, x0_3, x0_4, x0_5, x0_6, x0_7, x1_0, x1_1, x1_2, x1_3, x1_4, x1_5, x1_6, x1_7⟩ := hkk
        go_wp2
        first
        | (have HZ := Lib.hid (SP.set (SP.set (SP.set (SP.set (SP.set (SP.set (SP.set (SP.set (H.out) 1 0 (.bool on) rfl (by decide)) 1 1 (.bool bad) rfl (by decide)) 1 2 (.int .i64 t) rfl (by decide)) 1 3 (.slice A2 ws.length c2) rfl (by decide)) 1 4 (.slice A3 ns.length c3) rfl (by decide)) 1 5 (.bool true) rfl (by decide)) 1 6 (.bool gone) rfl (by decide)) 1 7 (.string inb) rfl (by decide)); refine bodyPost_ret (v := .tuple #[.agg #[.bool on, .bool bad, .int .i64 t, .slice A2 ws.length c2, .slice A3 ns.length c3, .bool true, .bool gone, .string inb], .slice A4 L.length c4]) ?_ rfl (⟨A3, ns, c3, true, A4, L, c4, rfl, HZ.out.get 0 rfl, HZ.out.get 1 rfl, HZ.out.get 2 rfl, HZ.out.below⟩); (simp [results, Try.results181, go_sem, x1_0, x1_1, x1_2, x1_3, x1_4, x1_5, x1_6, x1_7]; done))
    replace H := Lib.hid (SP.add H.out (fun W => NK W A5 L5) NK.c (NK.ofP HO.out.1 HO.out.2.2 (by omega)))
    clear HO
    obtain ⟨x0_0, x0_1, x0_2, x0_3, x0_4, x0_5, x0_6, x0_7⟩ := Blk.q8 (H.out.blk 0 rfl)
    obtain ⟨z0_0, z0_1, z0_2, z0_3, z0_4, z0_5, z0_6, z0_7⟩ := Blk.z8 (H.out.blk 0 rfl)
    obtain ⟨x1_0, x1_1, x1_2, x1_3, x1_4, x1_5, x1_6, x1_7⟩ := Blk.q8 (H.out.blk 1 rfl)
    obtain ⟨z1_0, z1_1, z1_2, z1_3, z1_4, z1_5, z1_6, z1_7⟩ := Blk.z8 (H.out.blk 1 rfl)
    have l0 := (H.out.blk 0 rfl).lt
    have l1 := (H.out.blk 1 rfl).lt
    have H := Lib.hid (SP.set H.out 0 4 (.slice A5 L5.length c5) rfl (by decide))
    have hN1 := LK.oneA (((((((((wk.setCell ⟨w.heap.size, 4, none⟩ (.slice A5 L5.length c5)).setCell ⟨w.heap.size + 1, 0, none⟩ (.bool on)).setCell ⟨w.heap.size + 1, 1, none⟩ (.bool bad)).setCell ⟨w.heap.size + 1, 2, none⟩ (.int .i64 t)).setCell ⟨w.heap.size + 1, 3, none⟩ (.slice A2 ws.length c2)).setCell ⟨w.heap.size + 1, 4, none⟩ (.slice A5 L5.length c5)).setCell ⟨w.heap.size + 1, 5, none⟩ (.bool skip)).setCell ⟨w.heap.size + 1, 6, none⟩ (.bool gone)).setCell ⟨w.heap.size + 1, 7, none⟩ (.string inb)) wk.heap.size (by simp only [World.size_setCell])
    have hlk := kFF (((((((((wk.setCell ⟨w.heap.size, 4, none⟩ (.slice A5 L5.length c5)).setCell ⟨w.heap.size + 1, 0, none⟩ (.bool on)).setCell ⟨w.heap.size + 1, 1, none⟩ (.bool bad)).setCell ⟨w.heap.size + 1, 2, none⟩ (.int .i64 t)).setCell ⟨w.heap.size + 1, 3, none⟩ (.slice A2 ws.length c2)).setCell ⟨w.heap.size + 1, 4, none⟩ (.slice A5 L5.length c5)).setCell ⟨w.heap.size + 1, 5, none⟩ (.bool skip)).setCell ⟨w.heap.size + 1, 6, none⟩ (.bool gone)).setCell ⟨w.heap.size + 1, 7, none⟩ (.string inb)) (.cells #[.string ⟨#[49]⟩, .string ⟨#[]⟩] 94)
    have HZ := Lib.hid (SP.add (SP.kept (SP.set (SP.set (SP.set (SP.set (SP.set (SP.set (SP.set (SP.set (H.out) 1 0 (.bool on) rfl (by decide)) 1 1 (.bool bad) rfl (by decide)) 1 2 (.int .i64 t) rfl (by decide)) 1 3 (.slice A2 ws.length c2) rfl (by decide)) 1 4 (.slice A5 L5.length c5) rfl (by decide)) 1 5 (.bool skip) rfl (by decide)) 1 6 (.bool gone) rfl (by decide)) 1 7 (.string inb) rfl (by decide)) hlk) (fun W => LK W (some ⟨wk.heap.size, 0, none⟩) [((⟨#[49]⟩, ⟨#[]⟩) : Let)]) LK.c hN1)
    clear hlk hN1
    go_wp2
    refine bodyPost_ret (v := .tuple #[.agg #[.bool on, .bool bad, .int .i64 t, .slice A2 ws.length c2, .slice A5 L5.length c5, .bool skip, .bool gone, .string inb], .slice (some ⟨wk.heap.size, 0, none⟩) 1 1]) ?_ rfl ⟨A5, L5, c5, skip, some ⟨wk.heap.size, 0, none⟩, [(⟨#[49]⟩, ⟨#[]⟩)], 1, rfl, HZ.out.get 0 rfl, HZ.out.get 2 rfl, HZ.out.get 3 rfl, HZ.out.below⟩
    simp [results, Try.results181, go_sem, l1, x1_0, x1_1, x1_2, x1_3, x1_4, x1_5, x1_6, x1_7]
end Go.Proofs.Ytpjkcmmmpgncmaa
