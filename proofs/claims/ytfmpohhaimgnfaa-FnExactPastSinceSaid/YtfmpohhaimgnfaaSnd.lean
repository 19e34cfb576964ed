/- The reference's PastSince and the program's: the keys of what was done behind a time, up to another one, in order. -/
import Derived.Test.YtfmpohhaimgnfaaSnc
namespace Go.Proofs
open Go.RowKit Go.Maps Go.Sort Go.Shelf
shelf_lay_g SlLaysZ.n7 Ggz 7 at Try 86 as Try.keysI
end Go.Proofs
namespace Go.Proofs.Ytfmpohhaimgnfaa
open Go.RowKit Go.Maps Go.ChangeMaps Go.Sort Go.Shelf
/-- maps.Keys(m) -/
theorem keysI_any (mb : Option Nat) (W : World) : Calls Try.prog 86 #[.map mb] W fun e w' => e = .returned (.func (.func 127) #[] #[.pointer (some ⟨W.heap.size, 0, none⟩)]) ∧ w' = W.alloc (.cells #[.map mb] 113) :=
  (callsIn_wide (n := 5)).1 (AnyZ.keys_in Try.keysI Fence.wide 5 trivial rfl mb W)
set_option maxHeartbeats 1000000 in
/-- slices.Sorted of it -/
theorem sortedI_any {H : Type} (g b nn : Nat) (D0 : DataW H) (R : Value → Option (DataW H × List MemPlace)) (w : World) (hg : g < w.heap.size) (hc : w.cell? ⟨g, 0, none⟩ = some (.map (some b))) (hown : w.ownsMap Try.prog 9 R b nn D0) (hmax : Maps.size D0 ≤ maxLen) (hbytes : Maps.size D0 * 16 ≤ 140737488355328) :
    Calls Try.prog 85 #[.func (.func 127) #[] #[.pointer (some ⟨g, 0, none⟩)]] w fun e w' => ∃ (v : Value) (ss : List (List UInt8)), e = .returned v ∧ ss.Perm (strKeys D0) ∧
      w'.ownsRow w.heap.size 9 1 v ss.length ((ss.mergeSort (fun x y => decide (x ≤ y))).map encStr) ∧ (v = .slice none 0 0 ↔ ss = []) ∧ Below w.heap.size w w' := by
  refine (callsIn_wide (n := 5)).1 ?_
  have hseq : SeqGives Fence.wide 2 Try.prog 127 #[.pointer (some ⟨g, 0, none⟩)] encStr (fun ss => ss.Perm (strKeys D0)) (Maps.size D0) w :=
    AnyZ.keys_gives (ρ := Try.keysI_ren) { Try.keysI with } Fence.wide _ trivial rfl (by omega) g b nn D0 _ hg hc hown
  exact AnyZ.sorted_in Try.sortedB Fence.wide 5 trivial trivial trivial trivial rfl (by omega) (Try.sortsB _) (enters_of Try.func126 (by kernel_rfl) rfl) 127 #[.pointer (some ⟨g, 0, none⟩)] trivial (enters_of Try.func127 (by kernel_rfl) rfl) _ _ hmax hbytes _ hseq
def elemI (v : Value) : Option (DU × List MemPlace) :=
  match v with
  | .int .i64 n => some (.lit (.int .i64 n), [])
  | _ => none
theorem elemI_inv {v : Value} {d : DU} {ps : List MemPlace} (h : elemI v = some (d, ps)) : ∃ n : Int, v = .int .i64 n := by
  unfold elemI at h
  split at h
  · exact ⟨_, rfl⟩
  · cases h
/-- the map's keys are those of the writes -/
def DS (D : DU) (M : List Wri) : Prop := IsMap D ∧ ∀ K, has D (keyL K) = M.any (fun w => decide (w.1 = K))
theorem DS.start : DS (.map []) [] := ⟨⟨[], rfl⟩, fun K => rfl⟩
theorem DS.put {D : DU} {M : List Wri} (h : DS D M) (x : Wri) (d : DU) : DS (D.put (keyL x.1) d) (M ++ [x]) := by
  refine ⟨h.1.put _ _, fun K => ?_⟩
  rw [List.any_append]
  by_cases e : x.1 = K
  · subst e
    rw [has_put_same h.1 (keyL_key _) _]
    simp
  · have hne : keyL K ≠ keyL x.1 := fun h => e (keyL_inj h).symm
    rw [has_put_other hne, h.2 K]
    simp [e]
def SetW (W : World) (B n : Nat) (M : List Wri) : Prop := ∃ D, W.ownsMap Try.prog 9 elemI B n D ∧ DS D M
theorem SetW.lt {W : World} {B n : Nat} {M : List Wri} (h : SetW W B n M) : B < W.heap.size := by obtain ⟨D, h, _⟩ := h; exact h.lt
theorem SetW.kept {W W' : World} {B n : Nat} {M : List Wri} (h : SetW W B n M) (hb : Below W.heap.size W W') : SetW W' B n M := by
  obtain ⟨D, ⟨es, clock, h1, h2⟩, h3⟩ := h
  exact ⟨D, ⟨es, clock, (hb.block B (Array.getElem?_eq_some_iff.1 h1).1).trans h1, h2⟩, h3⟩
theorem SetW.made (W : World) : SetW (W.alloc (.map #[] 0)) W.heap.size 0 [] := ⟨_, World.ownsMap_made W _ _ _, DS.start⟩
theorem zeroI (w : World) : (zeroValue 3).run Try.prog w = .ok (.int .i64 0) w := by kernel_rfl
theorem look_set (w : World) {ops : Array Oper} {rest : List Oper} {o : Oper} {a : Act} {Q : Exit → Act → World → Prop}
    (hg : o.guard = none) (m x : Operand) (hop : o.op = Op.lookup 113 m x false) (B n : Nat) (M : List Wri)
    (hm : a.eval m = .map (some B)) (hB : SetW w B n M) (K : ByteArray) (hx : a.eval x = .string K) (hk : K.size ≤ maxLen)
    (hK : ∀ z : Int, wpList Try.prog ops Q rest (a.put o.dst (.int .i64 z)) w) :
    wpList Try.prog ops Q (o :: rest) a w := by
  obtain ⟨D, hown, hD⟩ := hB
  refine wpList_plain hg fun K' hK' => ?_
  obtain ⟨v, ps, hrun, hv⟩ := hown.lookup (t := 113) (e := 3) lawK Try.underlying113 (zeroI w) (show elemI (.int .i64 0) = some (.lit (.int .i64 0), []) from rfl) (keyL_of hk)
  obtain ⟨z, rfl⟩ := elemI_inv hv
  unfold Oper.wp
  simp [execOp, hop, hm, hx, hrun, Result.andThen]
  exact hK' _ _ (hK z)
theorem set_sorted {W : World} {B n : Nat} {D : DU} {M : List Wri} {ss : List (List UInt8)} (hown : W.ownsMap Try.prog 9 elemI B n D) (hD : DS D M) (hp : ss.Perm (strKeys D)) :
    ss.mergeSort (fun x y => decide (x ≤ y)) = (addsL [] M).map (fun k => k.data.toList) := by
  obtain ⟨es, hDe, hpw, _⟩ := hown.entries lawK
  obtain ⟨es', hD', hko⟩ := hown.keysOf
  obtain rfl : es = es' := by rw [hDe] at hD'; simpa using hD'
  have hasc : ((addsL [] M).map (fun k => k.data.toList)).Pairwise (fun a b => a < b) := List.pairwise_map.2 ((asc_adds (M := M) (out := []) List.Pairwise.nil).imp fun h => kLt_lt.1 h)
  have h1 : ((addsL [] M).map (fun k => k.data.toList)).Perm (strKeys D) := by
    subst hDe
    refine perm_strKeys hpw (fun p hp => by obtain ⟨v, hv⟩ := hko p hp; obtain ⟨x, _, hx, _⟩ := Maps.keyOf_str Try.underlying9 hv; exact ⟨x, hx⟩) (hasc.imp fun h e => by subst e; exact List.lt_irrefl _ h) (fun x => ?_)
    have h2 := hD.2 ⟨x.toArray⟩
    unfold keyL at h2
    rw [mk_bytes] at h2
    rw [h2, List.any_eq_true, List.mem_map]
    constructor
    · rintro ⟨k, hk, rfl⟩
      rcases mem_adds.1 hk with h3 | ⟨w, hw, rfl⟩
      · cases h3
      · exact ⟨w, hw, by simp⟩
    · rintro ⟨w, hw, h3⟩
      rw [decide_eq_true_eq] at h3
      exact ⟨w.1, mem_adds.2 (.inr ⟨w, hw, rfl⟩), by rw [h3]⟩
  have h3 := mergeSort_of_perm (hp.trans h1.symm)
  show ss.mergeSort leB = _
  rw [h3]
  exact List.mergeSort_of_pairwise (hasc.imp fun h => by simpa [leB] using List.le_of_lt h)
theorem keyS_enc (T : List ByteArray) : (T.map (fun k => k.data.toList)).map encStr = T.flatMap encS := by
  induction T with
  | nil => rfl
  | cons w T ih =>
    rw [List.map_cons, List.map_cons, List.flatMap_cons, ih]
    rfl
/-- what was done behind a time, up to another one -/
def selC (f t : Int) (cs : List (List Wri)) : List Wri := cs.zipIdx.flatMap (fun p => if f ≤ (p.2 : Int) ∧ (p.2 : Int) < t then p.1 else [])
theorem selC_take {f t : Int} {cs : List (List Wri)} {k : Nat} (h : k < cs.length) : selC f t (cs.take (k + 1)) = selC f t (cs.take k) ++ (if f ≤ (k : Int) ∧ (k : Int) < t then cs[k] else []) := by
  unfold selC
  rw [List.take_succ_eq_append_getElem h, List.zipIdx_append, List.flatMap_append]
  congr 1
  have : (cs.take k).length = k := by rw [List.length_take]; omega
  simp [this]
theorem selC_lo {f t : Int} {cs : List (List Wri)} : ∀ (k : Nat), k ≤ cs.length → (k : Int) ≤ f → selC f t (cs.take k) = [] := by
  intro k
  induction k with
  | zero => intro _ _; simp [selC]
  | succ k ih =>
    intro h1 h2
    rw [selC_take (by omega), ih (by omega) (by omega), if_neg (by omega)]; rfl
theorem selC_hi {f t : Int} {cs : List (List Wri)} {k : Nat} (ht : t ≤ (k : Int)) : ∀ (n : Nat), k + n ≤ cs.length → selC f t (cs.take (k + n)) = selC f t (cs.take k) := by
  intro n
  induction n with
  | zero => intro _; rfl
  | succ n ih =>
    intro h1
    rw [← Nat.add_assoc, selC_take (by omega), ih (by omega), if_neg (by omega), List.append_nil]
theorem selC_all {f t : Int} {cs : List (List Wri)} {k : Nat} (h : cs.length ≤ k ∨ t ≤ (k : Int)) : selC f t (cs.take k) = selC f t cs := by
  by_cases e : cs.length ≤ k
  · rw [List.take_of_length_le e]
  · have ht : t ≤ (k : Int) := by omega
    have := selC_hi (f := f) ht (cs := cs) (cs.length - k) (by omega)
    rw [show k + (cs.length - k) = cs.length by omega, List.take_length] at this
    exact this.symm
def lensC (cs : List (List Wri)) : Nat := (cs.map (fun r => r.length)).sum
theorem lensC_take {cs : List (List Wri)} {k : Nat} (h : k < cs.length) : lensC (cs.take (k + 1)) = lensC (cs.take k) + cs[k].length := by
  unfold lensC; rw [List.take_succ_eq_append_getElem h, List.map_append, List.sum_append]; simp
theorem lensC_le (cs : List (List Wri)) (k : Nat) : lensC (cs.take k) ≤ lensC cs := by
  have e : lensC cs = lensC (cs.take k) + lensC (cs.drop k) := by
    unfold lensC; rw [← List.sum_append, ← List.map_append, List.take_append_drop]
  omega
theorem selC_len {f t : Int} {cs : List (List Wri)} : ∀ (k : Nat), k ≤ cs.length → (selC f t (cs.take k)).length ≤ lensC (cs.take k) := by
  intro k
  induction k with
  | zero => intro _; simp [selC]
  | succ k ih =>
    intro h
    have := ih (by omega)
    rw [selC_take (by omega), lensC_take (by omega), List.length_append]
    split
    · omega
    · simp; omega
theorem adds_take {out : List ByteArray} {M ws : List Wri} {j : Nat} (h : j < ws.length) : addsL out (M ++ ws.take (j + 1)) = addS (addsL out (M ++ ws.take j)) ws[j].1 := by
  rw [List.take_succ_eq_append_getElem h, ← List.append_assoc, addsL_app _ (M ++ ws.take j)]; rfl
theorem l1Max0_any (f : Int) (w : World) :
    Calls Try.prog 78 #[.int .i64 0, .int .i64 f] w fun e w' => e = .returned (.int .i64 (f.toNat : Int)) ∧ w' = w := by
  go_enter Try.func78, Try.ntmps78
  by_cases h : f < 0
  · have d : decide (f < 0) = true := decide_eq_true h
    have e : (f.toNat : Int) = 0 := by omega
    rw [e]
    clear e
    go_wp2
    go_ret
    exact ⟨rfl, rfl⟩
  · have d : decide (f < 0) = false := decide_eq_false h
    have e : (f.toNat : Int) = f := by omega
    rw [e]
    clear e
    go_wp2
    go_ret
    exact ⟨rfl, rfl⟩
set_option maxRecDepth 100000 in
set_option maxHeartbeats 3000000 in
theorem specSince_any (A : Option Addr) (rs : List Wrow) (c : Nat) (f t : Int) (w : World) (hn : rs.length ≤ 1048576) (hl : lensC (cont rs) ≤ 1048576) (hl2 : ∀ r ∈ rs, r.2.2.length ≤ 1048576) (hR : Sl2 w A rs) :
    Calls Try.prog 31 #[.slice A rs.length c, .int .i64 f, .int .i64 t] w fun e w' => ∃ v, e = .returned v ∧ OwnS w' w.heap.size v (addsL [] (selC f t (cont rs))) ∧ Below w.heap.size w w' := by
  have HR := Lib.hid hR
  have HL2 := Lib.hid hl2
  have hb0 := (Below.refl w.heap.size w).alloc (Nat.le_refl _) (.cells #[] 9)
  have HO0 := Lib.hid (show OwnS (w.alloc (.cells #[] 9)) w.heap.size (.slice (some ⟨w.heap.size, 0, none⟩) 0 0) [] from own_of_blk (Blk.new w 9 #[]) (Nat.le_refl _) (Nat.zero_le _) rfl rfl)
  have HM := Lib.hid (l1Max0_any f (w.alloc (.cells #[] 9)))
  have HCL := Lib.hid (cont_len rs)
  clear hR hl2
  go_enter Try.func31, Try.ntmps31
  go_wp2_with fail
  generalize w.alloc (.cells #[] 9) = w0 at *
  refine HM.out.mono ?_
  rintro e w1 ⟨rfl, rfl⟩
  have HS0 := Lib.hid (show addsL [] (selC f t ((cont rs).take f.toNat)) = [] by
    by_cases h : f.toNat ≤ rs.length
    · by_cases h2 : 0 ≤ f
      · rw [selC_lo f.toNat (by rw [HCL.out]; exact h) (by omega)]; rfl
      · rw [show f.toNat = 0 by omega]; rfl
    · rw [List.take_of_length_le (by rw [HCL.out]; omega), ← List.take_length (l := cont rs), selC_lo _ (Nat.le_refl _) (by rw [HCL.out]; omega)]; rfl)
  have hk0 : f ≤ (f.toNat : Int) := by omega
  generalize f.toNat = k0 at *
  clear HM
  go_wp2
  go_loopw [7, 8] (fun v s wr => ∃ (k : Nat) (A7 : Option Addr) (out : List ByteArray) (c7 : Nat), f ≤ (k : Int) ∧ v = .slice A7 out.length c7 ∧ s = .int .i64 k ∧ Hid (out = addsL [] (selC f t ((cont rs).take k))) ∧ Hid (OwnS wr w.heap.size (.slice A7 out.length c7) out ∧ Below w.heap.size w wr)) (fun _ s _ => rs.length - (intOf s).toNat)
  case atStart => exact ⟨k0, some ⟨w.heap.size, 0, none⟩, [], 0, hk0, rfl, rfl, Lib.hid HS0.out.symm, Lib.hid ⟨HO0.out, hb0⟩⟩
  case round =>
    clear HO0 HS0 hb0 hk0
    obtain ⟨k, A7, out, c7, hfk, rfl, rfl, HS, HO⟩ := hrel
    by_cases hlt : k < rs.length
    · have d0 : decide ((k : Int) < (rs.length : Int)) = true := decide_eq_true (by omega)
      by_cases hkt : (k : Int) < t
      · have d1 : decide ((k : Int) < t) = true := decide_eq_true hkt
        have HCG := Lib.hid (cont_get rs k hlt)
        have HCK := Lib.hid (show k < (cont rs).length by rw [HCL.out]; exact hlt)
        have HLK := Lib.hid (HL2.out _ (List.getElem_mem hlt))
        have HST := Lib.hid (selC_take (f := f) (t := t) HCK.out)
        have HSL := Lib.hid (selC_len (f := f) (t := t) (cs := cont rs) (k + 1) HCK.out)
        have HSE := Lib.hid (Nat.le_trans HSL.out (lensC_le _ _))
        have hri : ∀ W, Below w.heap.size w W → ∃ b o, A = some ⟨b, o, none⟩ ∧ W.cell? ⟨b, o + k, none⟩ = some (.slice rs[k].1 rs[k].2.2.length rs[k].2.1) := fun W hW => by
          obtain ⟨b, o, e, _, h, _⟩ := (HR.out.below hW).at_ hlt
          exact ⟨b, o, e, h⟩
        have hrs : ∀ W, Below w.heap.size w W → Sl encWri 3 W rs[k].1 rs[k].2.2 := fun W hW => (HR.out.below hW).2 _ (List.getElem_mem hlt)
        obtain ⟨b0, o0, rfl, _⟩ := hri w (Below.refl _ _)
        have HRI := Lib.hid (show ∀ W, Below w.heap.size w W → W.cell? ⟨b0, o0 + k, none⟩ = some (.slice rs[k].1 rs[k].2.2.length rs[k].2.1) from fun W hW => by
          obtain ⟨b, o, e, h⟩ := hri W hW
          simp at e; obtain ⟨rfl, rfl⟩ := e; exact h)
        have HRS := Lib.hid hrs
        clear hri hrs
        rw [HCG.out, if_pos ⟨hfk, hkt⟩] at HST
        generalize selC f t ((cont rs).take k) = M at *
        rw [HST.out] at HSE
        generalize rs[k] = r at *
        obtain ⟨Ar, cr, ws⟩ := r
        simp only at HRI HRS HLK HST HSE
        have hMw := HSE.out
        rw [List.length_append] at hMw
        clear HSL HCG HCK
        go_wp2
        go_loopg [7, 9] ws.length (fun kx v s W => ∃ (j : Nat) (A7 : Option Addr) (out : List ByteArray) (c7 : Nat), j ≤ ws.length ∧ kx = ws.length - j ∧ v = .slice A7 out.length c7 ∧ s = .int .i64 j ∧ Hid (out = addsL [] (M ++ ws.take j)) ∧ Hid (OwnS W w.heap.size (.slice A7 out.length c7) out ∧ Below w.heap.size w W))
        case atStart => exact ⟨0, A7, out, c7, Nat.zero_le _, rfl, rfl, rfl, Lib.hid (by rw [HS.out]; simp), HO⟩
        case round =>
          clear HS HO
          obtain ⟨j, A7, out, c7, hj, hg, rfl, rfl, HS, HO⟩ := hrel
          have g0 := HRI.out wr HO.out.2
          by_cases hlj : j < ws.length
          · have HTJ := Lib.hid (adds_take (out := []) (M := M) hlj)
            obtain ⟨b3, o3, e3, hbl3, d3, d4, d5⟩ := Sl.at3 (HRS.out wr HO.out.2) hlj
            have holn : out.length ≤ 1048576 := by
              rw [HS.out]
              have := adds_len (M := M ++ ws.take j) (out := [])
              rw [List.length_append, List.length_take] at this
              simp at this
              omega
            rw [← HS.out] at HTJ
            have HAO := Lib.hid (show AscS out by rw [HS.out]; exact asc_adds List.Pairwise.nil)
            generalize ws[j] = y at *
            obtain ⟨yk, yn, yg⟩ := y
            simp only at d3 d4 d5 HTJ
            subst e3
            have hji : (j : Int) < (ws.length : Int) := by omega
            have hji0 : (0 : Int) ≤ (j : Int) := by omega
            have hki : (k : Int) < (rs.length : Int) := by omega
            have hki0 : (0 : Int) ≤ (k : Int) := by omega
            have HC := Lib.hid (l8Add_any w.heap.size A7 out c7 yk wr HO.out.2.size holn HAO.out HO.out.1)
            rw [← HTJ.out] at HC
            generalize hq : addsL [] (M ++ ws.take (j + 1)) = o2 at *
            have HQ := Lib.hid hq
            clear hq HTJ HAO holn d4 d5
            go_wp2_with fail
            refine HC.out.mono ?_
            rintro e wa ⟨va, rfl, hoa, hba⟩
            obtain ⟨Aa, ca, rfl, _, _, hSa⟩ := hoa.sl
            have HOA := Lib.hid (⟨hoa, bthen HO.out.2 hba⟩ : _ ∧ _)
            clear HC hoa hSa hba d3 g0
            go_wp2
            go_roundg (ws.length - (j + 1))
            case measure => omega
            case rel => exact ⟨j + 1, Aa, o2, ca, by omega, by omega, rfl, by go_num, Lib.hid HQ.out.symm, HOA⟩
          · obtain rfl : j = ws.length := by omega
            rw [List.take_length] at HS
            have hki : (k : Int) < (rs.length : Int) := by omega
            have hki0 : (0 : Int) ≤ (k : Int) := by omega
            have hlj2 : decide ((ws.length : Int) < (ws.length : Int)) = false := decide_eq_false (by omega)
            go_wp2
            go_roundw
            case rel => exact ⟨k + 1, A7, out, c7, by omega, rfl, by go_num, Lib.hid (by rw [HS.out, HST.out]), HO⟩
            case measure => simp [intOf]; omega
      · have d1 : decide ((k : Int) < t) = false := decide_eq_false hkt
        have HE := Lib.hid (selC_all (f := f) (t := t) (cs := cont rs) (k := k) (.inr (by omega)))
        rw [HE.out] at HS
        go_wp2
        go_ret
        exact ⟨_, rfl, by rw [← HS.out]; exact HO.out.1, HO.out.2⟩
    · have d0 : decide ((k : Int) < (rs.length : Int)) = false := decide_eq_false (by omega)
      have HE := Lib.hid (selC_all (f := f) (t := t) (cs := cont rs) (k := k) (.inl (by rw [HCL.out]; omega)))
      rw [HE.out] at HS
      go_wp2
      go_ret
      exact ⟨_, rfl, by rw [← HS.out]; exact HO.out.1, HO.out.2⟩
/-- what stands while the keys are gathered -/
def SI (w : World) (M : List Wri) (W : World) : Prop := SetW W w.heap.size M.length M ∧ Below w.heap.size w W
theorem SI.below {w : World} {M : List Wri} {W W' : World} (h : SI w M W) (hb : Below W.heap.size W W') : SI w M W' := ⟨h.1.kept hb, bthen h.2 hb⟩
set_option maxRecDepth 100000 in
set_option maxHeartbeats 3000000 in
theorem implSince_any (A : Option Addr) (rs : List Wrow) (c : Nat) (f t : Int) (w : World) (hn : rs.length ≤ 1048576) (hl : lensC (cont rs) ≤ 1048576) (hl2 : ∀ r ∈ rs, r.2.2.length ≤ 1048576) (hf : ∀ r ∈ rs, ∀ x ∈ r.2.2, x.1.size ≤ maxLen) (hR : Sl2 w A rs) :
    Calls Try.prog 33 #[.slice A rs.length c, .int .i64 f, .int .i64 t] w fun e w' => ∃ v, e = .returned v ∧ OwnS w' w.heap.size v (addsL [] (selC f t (cont rs))) ∧ Below w.heap.size w w' := by
  have HR := Lib.hid hR
  have HL2 := Lib.hid hl2
  have HF := Lib.hid hf
  have HS0 := Lib.hid (show SI w [] (w.alloc (.map #[] 0)) from ⟨SetW.made w, (Below.refl _ _).alloc (Nat.le_refl _) _⟩)
  have HCL := Lib.hid (cont_len rs)
  have hmm := @run_makeMap Try.prog
  clear hR hl2 hf
  go_enter Try.func33, Try.ntmps33
  go_wp2
  clear hmm
  generalize w.alloc (.map #[] 0) = w0 at *
  go_loopw [16] (fun s wr => ∃ (k : Nat) (M : List Wri), k ≤ rs.length ∧ s = .int .i64 k ∧ Hid (M = selC f t ((cont rs).take k)) ∧ Hid (SI w M wr)) (fun s _ => rs.length - (intOf s).toNat)
  case atStart => exact ⟨0, [], Nat.zero_le _, rfl, Lib.hid rfl, HS0⟩
  case round =>
    clear HS0
    obtain ⟨k, M, hk, rfl, HM, HS⟩ := hrel
    by_cases hlt : k < rs.length
    · have HCG := Lib.hid (cont_get rs k hlt)
      have HCK := Lib.hid (show k < (cont rs).length by rw [HCL.out]; exact hlt)
      have HST := Lib.hid (selC_take (f := f) (t := t) HCK.out)
      have HSL := Lib.hid (selC_len (f := f) (t := t) (cs := cont rs) (k + 1) HCK.out)
      have HSE := Lib.hid (Nat.le_trans HSL.out (lensC_le _ _))
      obtain ⟨b, o, rfl, hbl, c0, hS0⟩ := (HR.out.below HS.out.2).at_ hlt
      have HRS := Lib.hid (show ∀ W, Below w.heap.size w W → Sl encWri 3 W rs[k].1 rs[k].2.2 from fun W hW => (HR.out.below hW).2 _ (List.getElem_mem hlt))
      have HLK := Lib.hid (HL2.out _ (List.getElem_mem hlt))
      have HFK := Lib.hid (HF.out _ (List.getElem_mem hlt))
      rw [HCG.out, ← HM.out] at HST
      rw [HST.out] at HSE
      generalize rs[k] = r at *
      obtain ⟨Ar, cr, ws⟩ := r
      simp only at c0 HRS HLK HFK HST HSE
      clear hS0 HCG HCK HSL
      have hki : (k : Int) < (rs.length : Int) := by omega
      have hki0 : (0 : Int) ≤ (k : Int) := by omega
      by_cases hfk : f < (k : Int) + 1
      · have d0 : decide (f < (k : Int) + 1) = true := decide_eq_true hfk
        by_cases hkt : (k : Int) + 1 ≤ t
        · have d1 : decide ((k : Int) + 1 ≤ t) = true := decide_eq_true hkt
          rw [if_pos ⟨by omega, by omega⟩] at HST HSE
          have hMw := HSE.out
          rw [List.length_append] at hMw
          clear HSE
          go_wp2
          go_loopg [33] ws.length (fun kx s W => ∃ (j : Nat), j ≤ ws.length ∧ kx = ws.length - j ∧ s = .int .i64 j ∧ Hid (SI w (M ++ ws.take j) W))
          case atStart => exact ⟨0, Nat.zero_le _, rfl, rfl, Lib.hid (by simpa using HS.out)⟩
          case round =>
            clear HS
            obtain ⟨j, hj, hg, rfl, HS⟩ := hrel
            by_cases hlj : j < ws.length
            · obtain ⟨b3, o3, e3, hbl3, d3, d4, d5⟩ := Sl.at3 (HRS.out wr HS.out.2) hlj
              have HTJ := Lib.hid (show M ++ ws.take (j + 1) = (M ++ ws.take j) ++ [ws[j]] by rw [List.take_succ_eq_append_getElem hlj, List.append_assoc])
              have hln : (M ++ ws.take j).length < 1048576 := by rw [List.length_append, List.length_take]; omega
              have HYK := Lib.hid (HFK.out _ (List.getElem_mem hlj))
              generalize M ++ ws.take j = MJ at *
              generalize ws[j] = y at *
              obtain ⟨yk, yn, yg⟩ := y
              simp only at d3 d4 d5 HYK
              subst e3
              have hji : (j : Int) < (ws.length : Int) := by omega
              have hji0 : (0 : Int) ≤ (j : Int) := by omega
              have hba := (Below.refl wr.heap.size wr).alloc (Nat.le_refl _) (.cells #[.string yk, .int .i64 yn, .bool yg] 61)
              have HS1 := Lib.hid (HS.out.below hba)
              have HX := Lib.hid (Blk.new wr 61 #[.string yk, .int .i64 yn, .bool yg])
              obtain ⟨D, hown, hD⟩ := HS1.out.1
              have HD := Lib.hid hD
              clear hba hD
              go_wp2_with (first
                | (at_lookup; refine look_set _ rfl _ _ rfl w.heap.size MJ.length MJ rfl HS1.out.1 yk rfl HYK.out ?_; intro z)
                | (at_mapUpdate; refine wpList_mapUpdate_own _ rfl _ _ _ 113 rfl 9 3 lawK Try.underlying113 elemI w.heap.size MJ.length D rfl hown (by unfold maxLen; omega) _ _ (keyL yk) rfl rfl (keyL_of HYK.out) _ [] rfl ?_; intro w1 hown1 hgrow1))
              have HS2 := Lib.hid (show SI w (MJ ++ [(yk, yn, yg)]) w1 from ⟨⟨_, by simpa using hown1, HD.out.put (yk, yn, yg) _⟩, below_own HS1.out.2 hgrow1 HS1.out.2.size (fun j hj => by injection hj with hj; omega)⟩)
              clear hown1 hgrow1
              go_roundg (ws.length - (j + 1))
              case measure => omega
              case rel => exact ⟨j + 1, by omega, by omega, by go_num, Lib.hid (by rw [HTJ.out]; exact HS2.out)⟩
            · obtain rfl : j = ws.length := by omega
              rw [List.take_length] at HS
              go_wp2
              go_roundw
              case rel => exact ⟨k + 1, M ++ ws, by omega, by go_num, Lib.hid HST.out.symm, HS⟩
              case measure => simp [intOf]; omega
        · have d1 : decide ((k : Int) + 1 ≤ t) = false := decide_eq_false hkt
          rw [if_neg (fun h => by omega), List.append_nil] at HST
          go_wp2
          go_roundw
          case rel => exact ⟨k + 1, M, by omega, by go_num, Lib.hid HST.out.symm, HS⟩
          case measure => simp [intOf]; omega
      · have d0 : decide (f < (k : Int) + 1) = false := decide_eq_false hfk
        rw [if_neg (fun h => by omega), List.append_nil] at HST
        go_wp2
        go_roundw
        case rel => exact ⟨k + 1, M, by omega, by go_num, Lib.hid HST.out.symm, HS⟩
        case measure => simp [intOf]; omega
    · obtain rfl : k = rs.length := by omega
      have HME := Lib.hid (show M = selC f t (cont rs) by rw [HM.out, ← HCL.out, List.take_length])
      have HKL := Lib.hid (show M.length ≤ 1048576 by
        have h1 := selC_len (f := f) (t := t) (cs := cont rs) (cont rs).length (Nat.le_refl _)
        rw [List.take_length] at h1
        rw [HME.out]; omega)
      have HS : Hid (Calls Try.prog 85 #[.func (.func 127) #[] #[.pointer (some ⟨wr.heap.size, 0, none⟩)]] (wr.alloc (.cells #[.map (some w.heap.size)] 113)) fun e w' => ∃ v, e = .returned v ∧ OwnS w' (wr.alloc (.cells #[.map (some w.heap.size)] 113)).heap.size v (addsL [] M) ∧ Below (wr.alloc (.cells #[.map (some w.heap.size)] 113)).heap.size (wr.alloc (.cells #[.map (some w.heap.size)] 113)) w') ∧ Hid (Below w.heap.size w wr) := by
        have hba := (Below.refl wr.heap.size wr).alloc (Nat.le_refl _) (.cells #[.map (some w.heap.size)] 113)
        obtain ⟨D, hown, hD⟩ := (HS.out.below hba).1
        have hsz := hown.size_le
        have hk := HKL.out
        refine ⟨Lib.hid ((sortedI_any wr.heap.size w.heap.size M.length D elemI _ (by simp) ((Blk.new wr 113 #[.map (some w.heap.size)]).cell 0) hown (by unfold maxLen; omega) (by omega)).mono ?_), Lib.hid HS.out.2⟩
        rintro e w' ⟨v, ss, rfl, hp, hrow, _, hb⟩
        have hks := set_sorted hown hD hp
        have hlen : ss.length = (addsL [] M).length := by
          have := congrArg List.length hks
          simpa using this
        rw [hks, keyS_enc, hlen] at hrow
        exact ⟨v, rfl, hrow, hb⟩
      obtain ⟨HSO, HBW⟩ := HS
      go_wp2_with fail
      refine (keysI_any (some w.heap.size) wr).mono ?_
      rintro e w2 ⟨rfl, rfl⟩
      go_wp2_with fail
      refine HSO.out.mono ?_
      rintro e w3 ⟨v, rfl, hov, hb3⟩
      have hba := (Below.refl wr.heap.size wr).alloc (Nat.le_refl _) (.cells #[.map (some w.heap.size)] 113)
      have HOV := Lib.hid (hov.le (Nat.le_trans HBW.out.size hba.size))
      have hbe := bthen HBW.out (bthen hba hb3)
      clear hov hb3 hba HSO
      go_wp2
      go_ret
      exact ⟨v, rfl, by rw [← HME.out]; exact HOV.out, hbe⟩
end Go.Proofs.Ytfmpohhaimgnfaa
