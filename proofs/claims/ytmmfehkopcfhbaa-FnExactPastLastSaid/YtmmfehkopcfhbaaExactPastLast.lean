/- FnExactPastLast: for every history, key and time the program's PastLast returns what the reference's returns, and the history reads afterwards as before. No condition. -/
import Derived.Test.YtmmfehkopcfhbaaPastI
import Derived.Test.YtmmfehkopcfhbaaOpenR
namespace Go.Proofs.Ytmmfehkopcfhbaa
open Go.RowKit Go.ChangeShapes Go.WideShapes Go.ChangeAt Go.Deep
open Go.ChangeMaps (open_string)
theorem rsz_mem {l : List (List Wri)} {x : List Wri} (h : x ∈ l) : x.length ≤ rsz l := by
  unfold rsz
  induction l with
  | nil => cases h
  | cons y l ih =>
    rw [List.map_cons, List.sum_cons]
    rcases List.mem_cons.1 h with rfl | h
    · omega
    · have := ih h; omega
theorem fits_same {rs qs : List Wrow} (h : FitsR rs) (he : cont qs = cont rs) : FitsR qs := by
  refine ⟨by rw [← cont_len qs, he, cont_len]; exact h.1, fun r hr => ?_⟩
  have : r.2.2 ∈ cont qs := List.mem_map.2 ⟨r, hr, rfl⟩
  rw [he] at this
  obtain ⟨r2, h2, e⟩ := List.mem_map.1 this
  rw [← e]; exact h.2 r2 h2
theorem row_short {rs qs : List Wrow} (h : (rs.length + rsz (cont rs) : Nat) ≤ 1048576) (he : cont qs = cont rs) : qs.length ≤ 1048576 ∧ ∀ r ∈ qs, r.2.2.length ≤ 1048576 := by
  refine ⟨by rw [← cont_len qs, he, cont_len]; omega, fun r hr => ?_⟩
  have : r.2.2 ∈ cont qs := List.mem_map.2 ⟨r, hr, rfl⟩
  rw [he] at this
  have := rsz_mem this
  omega
theorem last_same {key : ByteArray} {rs qs : List Wrow} {t : Int} (he : cont qs = cont rs) : lastAt key qs t = lastAt key rs t := by unfold lastAt; rw [he]
set_option maxHeartbeats 1000000 in
theorem lawPastLast (A : Option Addr) (rs : List Wrow) (c : Nat) (key : ByteArray) (t : Int) (w : World) (hk : key.size ≤ maxLen) (hf : FitsR rs) (hR : Sl2 w A rs) :
    Calls Try.prog 4 #[.slice A rs.length c, .string key, .int .i64 t] w fun e w' => e = .returned (.bool true) ∧ Below w.heap.size w w' := by
  unfold maxLen at hk
  by_cases hks : (1048576 : Int) < key.size
  · go_enter Try.func4, Try.ntmps4
    go_wp2
    go_ret
    exact ⟨rfl, Below.refl _ _⟩
  by_cases hsz : ((rs.length + rsz (cont rs) : Nat) : Int) ≤ 1048576
  · have HZ := Lib.hid (sz_yes hsz)
    obtain ⟨hl1, hl2⟩ := row_short (rs := rs) (qs := rs) (by omega) rfl
    have HS := Lib.hid (show (rs.length + rsz (cont rs) : Nat) ≤ 1048576 by omega)
    have hd : decide ((1048576 : Int) - ((rs.length : Int) + (rsz (cont rs) : Int)) < 0) = false := by simp; omega
    clear hsz
    go_enter Try.func4, Try.ntmps4
    go_wp2_with fail
    refine (szWriteSS_any A rs c _ _ hf hR (by omega) (by omega)).mono ?_
    rintro e w1 ⟨rfl, hb1⟩
    rw [HZ.out]
    go_wp2_with fail
    refine (toWriteSS_any A rs c _ hl1 hl2 (hR.below hb1)).mono ?_
    rintro e w2 ⟨v, rfl, ⟨A2, c2, qs2, rfl, e2, _, _, hS2, _⟩, hb2⟩
    have hs2 := row_short HS.out e2
    go_wp2_with fail
    refine (specPastLast_any A2 qs2 c2 key t _ hs2.1 hs2.2 hS2).mono ?_
    rintro e w3 ⟨rfl, hb3⟩
    rw [last_same e2]
    generalize hq : lastAt key rs t = q at *
    have HQ := Lib.hid hq
    clear hq
    unfold lastOut
    generalize hx : wOf q = x at *
    obtain ⟨x1, x2, x3⟩ := x
    simp only
    have hb03 := bthen (bthen hb1 hb2) hb3
    have hb13 := hb03.alloc hb03.size (.cells #[.string x1, .int .i64 x2, .bool x3] 33)
    have hG := Blk.new w3 33 #[.string x1, .int .i64 x2, .bool x3]
    clear hb1 hb2 hb3 hb03 hS2
    go_wp2_with fail
    generalize w3.alloc (.cells #[.string x1, .int .i64 x2, .bool x3] 33) = w3a at *
    refine (toWriteSS_any A rs c _ hl1 hl2 (hR.below hb13)).mono ?_
    rintro e w4 ⟨v, rfl, ⟨A4, c4, qs4, rfl, e4, _, _, hS4, _⟩, hb4⟩
    have hs4 := row_short HS.out e4
    go_wp2_with fail
    refine (implPastLast_any A4 qs4 c4 key t _ hs4.1 hs4.2 hS4).mono ?_
    rintro e w5 ⟨rfl, hb5⟩
    rw [last_same e4, HQ.out]
    unfold lastOut
    rw [hx]
    simp only
    have hb05 := bthen (bthen hb13 hb4) hb5
    have hb15 := hb05.alloc hb05.size (.cells #[.string x1, .int .i64 x2, .bool x3] 33)
    have hG2 := (((hG.kept hb4).kept hb5)).alloc (.cells #[.string x1, .int .i64 x2, .bool x3] 33)
    have hH := Blk.new w5 33 #[.string x1, .int .i64 x2, .bool x3]
    have hS5 := (hS4.below hb5).below ((Below.refl _ _).alloc (Nat.le_refl _) (.cells #[.string x1, .int .i64 x2, .bool x3] 33))
    have g0 : (w5.alloc (.cells #[.string x1, .int .i64 x2, .bool x3] 33)).cell? ⟨w3.heap.size, 0, none⟩ = some (.string x1) := hG2.cell 0
    have g1 : (w5.alloc (.cells #[.string x1, .int .i64 x2, .bool x3] 33)).cell? ⟨w3.heap.size, 1, none⟩ = some (.int .i64 x2) := hG2.cell 1
    have g2 : (w5.alloc (.cells #[.string x1, .int .i64 x2, .bool x3] 33)).cell? ⟨w3.heap.size, 2, none⟩ = some (.bool x3) := hG2.cell 2
    clear hb13 hb4 hb5 hb05 hG hS4
    go_wp2_with fail
    refine (eqWrite_any (x1, x2, x3) (x1, x2, x3) _).mono ?_
    rintro e w6 ⟨rfl, hb6⟩
    rw [eqB_yes rfl]
    have hb16 := bthen hb15 hb6
    have hS6 := hS5.below hb6
    clear g0 g1 g2
    go_wp2_with fail
    refine (toWriteSS_any A rs c _ hl1 hl2 (hR.below hb16)).mono ?_
    rintro e w7 ⟨v, rfl, ⟨A7, c7, qs7, rfl, e7, _, _, hS7, _⟩, hb7⟩
    go_wp2_with fail
    refine (eqWriteSS_any A4 A7 qs4 qs7 c4 c7 _ (fits_same hf e4) (fits_same hf e7) (hS6.below hb7) hS7 (e4.trans e7.symm)).mono ?_
    rintro e w8 ⟨rfl, hb8⟩
    have hb18 := bthen (bthen hb16 hb7) hb8
    go_wp2
    go_ret
    exact ⟨rfl, hb18⟩
  · have HZ := Lib.hid (sz_no (t := rs.length + rsz (cont rs)) (a := 1048576) (by omega))
    go_enter Try.func4, Try.ntmps4
    go_wp2_with fail
    refine (szWriteSS_any A rs c _ _ hf hR (by omega) (by omega)).mono ?_
    rintro e w1 ⟨rfl, hb1⟩
    rw [HZ.out]
    go_wp2
    go_ret
    exact ⟨rfl, hb1⟩
theorem own0 : ownKnob Try.prog.godebug = none := by kernel_rfl
theorem laidOut0 : laidOutB Try.prog = true := by kernel_rfl
set_option maxRecDepth 100000 in
theorem exactPastLast_lifted (os : Os) (started : os.Started) (H : Type) (enc : TypeId × Value → H) :
    ReturnsInHanded {} Try.checked os 4 .any (Rows.fnExactPastLastSpec.pre6 enc Try.prog Try.f4 Rows.fnExactPastLastRow.domain false) (Rows.fnExactPastLastSpec.post enc Try.prog Try.f4 false true false false) := by
  refine returnsInHanded_of_change (C := Try.checked) own0 started (by kernel_rfl) Try.func4
    (ChangeSpec.witness6 (enc := enc) (C := Try.checked) false ⟨#[], #[.slice none 0 0, .string ⟨#[]⟩, .int .i64 0], []⟩ 8 (by kernel_rfl) (by kernel_rfl) (by kernel_rfl) (by kernel_rfl)) ?_
  intro W base args ds gs before hval0 hW hcnd _
  have hval : ∀ (j : Nat) t v, Try.f4.params[j]? = some t → args[j]? = some v → Value.okWide Try.prog W .any base t v := hval0
  have hW' := hW
  obtain ⟨p, q, hA0, hV, rfl, hfz, hnd⟩ := hW
  have hA : DataW.TrodAll enc Try.prog W 0 (fun _ => true) true Try.f4.params.toList args.toList ds p := hA0
  rw [Try.params4] at hA hval
  obtain ⟨v0, vs0, d0, ds0, p0, q0, hargs, rfl, rfl, h0, r0⟩ := trodAll_cons hA
  obtain ⟨v1, vs1, d1, ds1, p1, q1, rfl, rfl, rfl, h1, r1⟩ := trodAll_cons r0
  obtain ⟨v2, vs2, d2, ds2, p2, q2, rfl, rfl, rfl, h2, r2⟩ := trodAll_cons r1
  obtain ⟨rfl, rfl, rfl⟩ := trodAll_nil r2
  obtain rfl : args = #[v0, v1, v2] := by cases args; simp_all
  obtain ⟨rfl, rfl⟩ := trodVars_none hV
  have k0 := h0
  have k1 := h1
  have k2 := h2
  have lt0 : ∀ x ∈ p0, x.block < W.heap.size := by obtain ⟨m, hm⟩ := k0; exact DataW.trod_lt m _ _ _ hm
  have lt1 : ∀ x ∈ p1, x.block < W.heap.size := by obtain ⟨m, hm⟩ := k1; exact DataW.trod_lt m _ _ _ hm
  have lt2 : ∀ x ∈ p2, x.block < W.heap.size := by obtain ⟨m, hm⟩ := k2; exact DataW.trod_lt m _ _ _ hm
  obtain ⟨A, rs, c, rfl, hf, hR⟩ := open_rows (hval 0 30 v0 rfl rfl) h0
  obtain ⟨key, rfl, rfl, rfl, hk⟩ := open_string Try.underlying9 (hval 1 9 v1 rfl rfl) h1
  obtain ⟨t, rfl, rfl, rfl, ht⟩ := open_int Try.underlying3 (hval 2 3 v2 rfl rfl) h2
  clear hA0 hval0
  refine (lawPastLast A rs c key t W hk hf hR).mono fun e W' ⟨he, bel⟩ => ?_
  subst he
  exact ⟨_, rfl, _, _, _, [], _, [], hW', trodAll_mk1 (shut_bool Try.underlying4 _), (trodAll_cons_mk (Below.trod laidOut0 (by kernel_rfl) (of_decide_eq_true (by kernel_rfl)) k0 bel lt0) (trodAll_cons_mk (Below.trod laidOut0 (by kernel_rfl) (of_decide_eq_true (by kernel_rfl)) k1 bel lt1) (trodAll_cons_mk (Below.trod laidOut0 (by kernel_rfl) (of_decide_eq_true (by kernel_rfl)) k2 bel lt2) trodAll_mk0))), rfl, bel.frame _, fun h => by cases h⟩

theorem exactPastLast_holds : Rows.FnExactPastLastSaid :=
  OpenClaim.holds_of_wide 4 Try.f4 rfl rfl rfl rfl rfl rfl rfl ⟨rfl, rfl, rfl, rfl, rfl⟩ rfl rfl rfl rfl rfl (by kernel_rfl) Try.func4 (by kernel_rfl)
    (of_decide_eq_true (by kernel_rfl)) (by unfold Func.isWrapper; first | (rw [if_pos (by decide +kernel)]; kernel_rfl) | (rw [if_neg (by decide +kernel)]; exact ⟨rfl, rfl⟩))
    (fun os started H enc _ => exactPastLast_lifted os started H enc)
#print axioms exactPastLast_holds
end Go.Proofs.Ytmmfehkopcfhbaa
