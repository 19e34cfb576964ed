import Derived.Test.YtpjkcmmmpgncmaaL7E
import Derived.Test.YtpjkcmmmpgncmaaHOl
/- The reference's l7Evs: things that happen, one behind the other, are drawn; and DrawHallOnly. -/
namespace Go.Proofs.Ytpjkcmmmpgncmaa
open Go.RowKit
def l7Nd : List Int := [6, 10, 3, 0]
theorem l7Nd_le : ∀ x ∈ l7Nd, 0 ≤ x ∧ x ≤ 10 := by decide
def l7Ne : List Int := [0, 1, 2, -1, 3]
theorem own_neT {W : World} {B k n : Nat} {e t : TypeId} {v : Value} {xs : List Value} (h : W.ownsRow B e k v n xs) {g : Nat} {cs : Array Value} (hB : Blk W g t cs) (hne : e ≠ t) : ∀ j, v.ownBlock = some j → j ≠ g := by
  intro j hj e2
  subst e2
  rcases h.2 with ⟨e, h0⟩ | ⟨g, cap, cur, e, hB2, hh, r⟩
  · rw [e] at hj; simp [Value.ownBlock] at hj
  · rw [e] at hj
    simp [Value.ownBlock] at hj
    subst hj
    exact blk_ne (show Blk W g _ cur from hh) hB hne rfl
theorem kp_ownE {w w' : World} {B n : Nat} {v : Value} {xs : List Value} (h : w.ownsRow B 58 3 v n xs) (hg : w.grownBy w' v.ownBlock) {α : Type} {enc : α → List Value} {k : Nat} {t : TypeId} {A : Option Addr} {l : List α} (hS : SlK enc k t w A l) (ht : t ≠ 58) : SlK enc k t w' A l := fun hl => by
  obtain ⟨b, o, cs, e, hb, hc⟩ := hS hl
  exact ⟨b, o, cs, e, hb.grown hg (fun e2 => own_neT h hb (Ne.symm ht) b e2.symm rfl), hc⟩
theorem VK.ownE {w w' : World} {B n : Nat} {v : Value} {xs : List Value} (h : w.ownsRow B 58 3 v n xs) (hg : w.grownBy w' v.ownBlock) {now : Int} {A : Option Addr} {l : List Ver} (hV : VK w now A l) : VK w' now A l := ⟨kp_ownE h hg hV.1 (by decide), hV.2⟩
theorem TsOk.ownE {w w' : World} {B n : Nat} {v : Value} {xs : List Value} (h : w.ownsRow B 58 3 v n xs) (hg : w.grownBy w' v.ownBlock) {L : List Tk} (hT : TsOk w L) : TsOk w' L := fun x hx => ⟨⟨kp_ownE h hg (hT x hx).1.1 (by decide), (hT x hx).1.2⟩, ⟨kp_ownE h hg (hT x hx).2.1.1 (by decide), (hT x hx).2.1.2⟩, (hT x hx).2.2⟩
theorem own_grN {w w' : World} {B : Nat} {e : TypeId} {k n : Nat} {v : Value} {xs : List Value} (h : w.ownsRow B e k v n xs) {r : Option Nat} (hg : w.grownBy w' r) (hne : ∀ j, v.ownBlock = some j → r ≠ some j) : w'.ownsRow B e k v n xs := by
  refine h.kept hg ?_
  cases hv : v.ownBlock with
  | none => exact .inl rfl
  | some j => exact .inr (fun e => hne j hv e.symm)
/-- what stands between two things that happen -/
def EvS (u0 w : World) (RA : Option Addr) (rb : List UInt8) (rc g q gh : Nat) (now : Int) (A : Option Addr) (l : List Ver) (c b cT : Nat) (L : List Tk) (LO : List EvV) (AO : Option Addr) (cO : Nat) (W : World) : Prop :=
  Blk W gh 35 #[.int .i64 now, .slice A l.length c, .slice (some ⟨b, 0, none⟩) 3 cT] ∧ VK W now A l ∧ OwnT W w.heap.size (.slice (some ⟨b, 0, none⟩) 3 cT) L ∧ (L.length = 3 ∧ TsOk W L) ∧ OwnE W w.heap.size (.slice AO LO.length cO) LO ∧ Rd u0 W RA rb rc g q ∧ w.grownBy W (some g) ∧ (g < w.heap.size ∧ w.heap.size ≤ gh)
section
variable {u0 w W W' : World} {RA : Option Addr} {rb : List UInt8} {rc g q gh : Nat} {now : Int} {A : Option Addr} {l : List Ver} {c b cT : Nat} {L : List Tk} {LO : List EvV} {AO : Option Addr} {cO : Nat}
theorem EvS.below (h : EvS u0 w RA rb rc g q gh now A l c b cT L LO AO cO W) (hb : Below W.heap.size W W') : EvS u0 w RA rb rc g q gh now A l c b cT L LO AO cO W' :=
  ⟨h.1.kept hb, h.2.1.below hb, own_kept h.2.2.1 hb, ⟨h.2.2.2.1.1, h.2.2.2.1.2.below hb⟩, own_kept h.2.2.2.2.1 hb, h.2.2.2.2.2.1.below hb, gr_trans h.2.2.2.2.2.2.1 (gr_below hb), h.2.2.2.2.2.2.2⟩
theorem EvS.draw {q' : Nat} (h : EvS u0 w RA rb rc g q gh now A l c b cT L LO AO cO W) (hR : Rd u0 W' RA rb rc g q') (hG : W.grownBy W' (some g)) : EvS u0 w RA rb rc g q' gh now A l c b cT L LO AO cO W' := by
  have hk := Kp.rd h.2.2.2.2.2.1 hG
  have hg := h.2.2.2.2.2.2.2.1
  exact ⟨h.1.grown hG (by have := h.2.2.2.2.2.2.2.2; simp; omega), h.2.1.kp hk, own_gr h.2.2.1 hG hg, ⟨h.2.2.2.1.1, h.2.2.2.1.2.kp hk⟩, own_gr h.2.2.2.2.1 hG hg, hR, gr_trans h.2.2.2.2.2.2.1 hG, h.2.2.2.2.2.2.2⟩
theorem EvS.grow {LO' : List EvV} {AO' : Option Addr} {cO' : Nat} (h : EvS u0 w RA rb rc g q gh now A l c b cT L LO AO cO W) (hg : W.grownBy W' (Value.slice AO LO.length cO).ownBlock) (hO : OwnE W' w.heap.size (.slice AO' LO'.length cO') LO') : EvS u0 w RA rb rc g q gh now A l c b cT L LO' AO' cO' W' := by
  have h5 := h.2.2.2.2.1
  have hR := h.2.2.2.2.2.1
  have h8 := h.2.2.2.2.2.2.2
  refine ⟨h.1.grown hg (fun e => own_neT h5 h.1 (by decide) _ e.symm rfl), VK.ownE h5 hg h.2.1, own_grN h.2.2.1 hg (fun j hj e => ?_), ⟨h.2.2.2.1.1, TsOk.ownE h5 hg h.2.2.2.1.2⟩, hO, hR.own hg (fun j hj => by have := ownB h5 j hj; omega), gr_own h.2.2.2.2.2.2.1 hg (fun j hj => ownB h5 j hj), h8⟩
  rcases h.2.2.1.2 with ⟨e1, _⟩ | ⟨g9, cap, cur, hv, hg9, hh, _⟩
  · simp at e1
  · rw [hv] at hj
    simp [Value.ownBlock] at hj
    subst hj
    exact own_neT h5 (show Blk W g9 81 cur from hh) (by decide) _ e rfl
theorem EvS.put (h : EvS u0 w RA rb rc g q gh now A l c b cT L LO AO cO W) (now' : Int) (A' : Option Addr) (l' : List Ver) (c' b' cT' : Nat) (L' : List Tk) (hV : VK W now' A' l') (hO : OwnT W w.heap.size (.slice (some ⟨b', 0, none⟩) 3 cT') L') (hL : L'.length = 3) (hT : TsOk W L') :
    EvS u0 w RA rb rc g q gh now' A' l' c' b' cT' L' LO AO cO (((W.setCell ⟨gh, 0, none⟩ (.int .i64 now')).setCell ⟨gh, 1, none⟩ (.slice A' l'.length c')).setCell ⟨gh, 2, none⟩ (.slice (some ⟨b', 0, none⟩) 3 cT')) := by
  have h0 := h.1
  have h1 := h0.set_ 0 (.int .i64 now')
  have h2 := h1.set_ 1 (.slice A' l'.length c')
  have h5 := h.2.2.2.2.1
  have hR := h.2.2.2.2.2.1
  have h8 := h.2.2.2.2.2.2.2
  have e1 := own_farN hO (own_neT hO h0 (by decide)) (i := 0) (.int .i64 now')
  have e2 := own_farN e1 (own_neT e1 h1 (by decide)) (i := 1) (.slice A' l'.length c')
  have e3 := own_farN e2 (own_neT e2 h2 (by decide)) (i := 2) (.slice (some ⟨b', 0, none⟩) 3 cT')
  have o1 := own_farN h5 (own_neT h5 h0 (by decide)) (i := 0) (.int .i64 now')
  have o2 := own_farN o1 (own_neT o1 h1 (by decide)) (i := 1) (.slice A' l'.length c')
  have o3 := own_farN o2 (own_neT o2 h2 (by decide)) (i := 2) (.slice (some ⟨b', 0, none⟩) 3 cT')
  have hu : u0.heap.size ≤ g := hR.2.2.1
  have r1 := hR.farS (p := ⟨gh, 0, none⟩) (by simp only; omega) (by simp only; omega) (.int .i64 now')
  have r2 := r1.farS (p := ⟨gh, 1, none⟩) (by simp only; omega) (by simp only; omega) (.slice A' l'.length c')
  have r3 := r2.farS (p := ⟨gh, 2, none⟩) (by simp only; omega) (by simp only; omega) (.slice (some ⟨b', 0, none⟩) 3 cT')
  exact ⟨h2.set_ 2 (.slice (some ⟨b', 0, none⟩) 3 cT'), ((hV.farT h0 _).farT h1 _).farT h2 _, e3, ⟨hL, ((hT.farT h0 _).farT h1 _).farT h2 _⟩, o3, r3, gr_far (gr_far (gr_far h.2.2.2.2.2.2.1 (p := ⟨gh, 0, none⟩) h8.2 _) (p := ⟨gh, 1, none⟩) h8.2 _) (p := ⟨gh, 2, none⟩) h8.2 _, h8⟩
end
theorem ownT_at {W : World} {B c : Nat} {A : Option Addr} {L : List Tk} (h : OwnT W B (.slice A 3 c) L) (hL : L.length = 3) : ∃ b, A = some ⟨b, 0, none⟩ ∧ B ≤ b ∧ b < W.heap.size := by
  rcases h.2 with ⟨_, h0⟩ | ⟨g9, cap, cur, hv, hg9, hh, _⟩
  · omega
  · injection hv with h1 h2 h3
    exact ⟨g9, h1, hg9, (show Blk W g9 81 cur from hh).lt⟩
/-- how l7Evs leaves -/
def EvsD (u0 w : World) (RA : Option Addr) (rb : List UInt8) (rc g p n : Nat) (e : Ending) (w' : World) : Prop :=
  ∃ (AO : Option Addr) (LO : List EvV) (cO q : Nat), e = .returned (.slice AO LO.length cO) ∧ Sl encEv 3 w' AO LO ∧ LO.length = n ∧ OwnE w' w.heap.size (.slice AO LO.length cO) LO ∧ q ≤ p + 700 * n ∧ Rd u0 w' RA rb rc g q ∧ w.grownBy w' (some g)
theorem infoEvS : (Try.prog.info? 58).map (fun i => (i.zero, i.size, i.bytes)) = some (some (.agg #[.int .i64 0, .int .i64 0, .string ⟨#[]⟩]), 3, 32) := by kernel_rfl
set_option maxRecDepth 100000 in
set_option maxHeartbeats 16000000 in
theorem l7Evs_any (u0 : World) (RA : Option Addr) (rb : List UInt8) (rc g p : Nat) (n : Nat) (w : World) (hR : Rd u0 w RA rb rc g p) (hp : p < 400000) (hn : n ≤ 10) :
    Calls Try.prog 55 #[.pointer (some ⟨g, 0, none⟩), .int .i64 n] w (EvsD u0 w RA rb rc g p n) := by
  obtain ⟨i0, hi0, hz0, hz1, hz2⟩ := info_parts infoEvS
  have HI := Lib.hid (⟨hi0, hz0, hz1, hz2⟩ : _ ∧ _ ∧ _ ∧ _)
  clear hi0 hz0 hz1 hz2
  have hgw : g < w.heap.size := hR.1.lt
  have HR := Lib.hid hR
  clear hR
  go_enter Try.func55, Try.ntmps55
  go_wp2_with fail
  have hbA : Below w.heap.size w (w.alloc (.cells #[] 58)) := kF w _
  have hOE := ownE_nil w w.heap.size w.heap.size rfl (Nat.le_refl _)
  have hEs : w.heap.size + 1 = (w.alloc (.cells #[] 58)).heap.size := by rw [World.size_alloc]
  change Calls _ _ _ (w.alloc (.cells #[] 58)) _
  generalize (w.alloc (.cells #[] 58)) = wE at *
  refine (l7New_any wE).mono ?_
  rintro e w1 ⟨gl, AT, cT, rfl, hOT, hb1⟩
  obtain ⟨b, rfl, hbB, hbl⟩ := ownT_at hOT rfl
  have hOT2 : OwnT w1 w.heap.size (.slice (some ⟨b, 0, none⟩) 3 cT) [goneT, goneT, goneT] := Go.Joins.ownsRow_le hOT (by omega)
  have HS : Hid (EvS u0 w RA rb rc g p w1.heap.size 0 (some ⟨gl, 0, none⟩) [] 0 b cT [goneT, goneT, goneT] [] (some ⟨w.heap.size, 0, none⟩) 0 (w1.alloc (.cells #[.int .i64 0, .slice (some ⟨gl, 0, none⟩) 0 0, .slice (some ⟨b, 0, none⟩) 3 cT] 35))) := Lib.hid (by
    have hbN := bthen hbA hb1
    have hbX := kF w1 (.cells #[.int .i64 0, .slice (some ⟨gl, 0, none⟩) 0 0, .slice (some ⟨b, 0, none⟩) 3 cT] 35)
    have hbT := bthen hbN hbX
    refine ⟨Blk.new w1 _ _, ⟨SlK.nil _ _, ⟨by simp, fun x hx => absurd hx (by simp)⟩, by simp, by decide, by decide⟩, own_kept hOT2 hbX, ⟨rfl, fun x hx => ?_⟩, own_kept (own_kept hOE hb1) hbX, HR.out.below hbT, gr_below hbT, hgw, hbN.size⟩
    have : x = goneT := by simpa using hx
    subst this
    exact TOk.gone _)
  clear hbA hOE hOT hOT2 hb1 hbB hbl
  skip
  go_wp2
  go_loopw [5, 7] (fun v5 i wr => ∃ (k q : Nat) (now : Int) (A : Option Addr) (l : List Ver) (c b cT : Nat) (L : List Tk) (LO : List EvV) (AO : Option Addr) (cO : Nat), k ≤ n ∧ q ≤ p + 700 * k ∧ i = .int .i64 k ∧ v5 = .slice AO LO.length cO ∧ Hid (LO.length = k) ∧ Hid (EvS u0 w RA rb rc g q w1.heap.size now A l c b cT L LO AO cO wr)) (fun _ i _ => n - (intOf i).toNat)
  case atStart => exact ⟨0, p, 0, some ⟨gl, 0, none⟩, [], 0, b, cT, [goneT, goneT, goneT], [], some ⟨w.heap.size, 0, none⟩, 0, Nat.zero_le _, Nat.le_refl _, rfl, rfl, Lib.hid rfl, HS⟩
  case round =>
    clear HS HR
    obtain ⟨k, q, now, A, l, c, b, cT, L, LO, AO, cO, hk, hq, rfl, rfl, hLO, H⟩ := hrel
    by_cases hlt : k < n
    case neg =>
      obtain rfl : k = n := by omega
      have hkk : ¬ (k : Int) < (k : Int) := by omega
      have hOf := H.out.2.2.2.2.1
      go_wp2
      go_ret
      exact ⟨AO, LO, cO, q, rfl, SlK.sl (SlK.of_own encEv_len hOf), hLO.out, hOf, by omega, H.out.2.2.2.2.2.1, H.out.2.2.2.2.2.2.1⟩
    have hki : (k : Int) < (n : Int) := by omega
    have x0_0 := H.out.1.cell 0
    have x0_1 := H.out.1.cell 1
    have x0_2 := H.out.1.cell 2
    simp only [List.getElem?_toArray, List.getElem?_cons_zero, List.getElem?_cons_succ] at x0_0 x0_1 x0_2
    go_wp2_with fail
    refine (l7Ev_any u0 RA rb rc g q w.heap.size now A l c b cT L _ H.out.2.2.2.2.2.1 (by omega) H.out.2.1 H.out.2.2.1 H.out.2.2.2.1.1 H.out.2.2.2.1.2).mono ?_
    rintro e w2 ⟨kind, who, bs, q2, rfl, hq2, hR2, hG2⟩
    replace H := Lib.hid (H.out.draw hR2 hG2)
    clear hR2 hG2 x0_0 x0_1 x0_2
    go_upto_region 7 with fail
    have BE := Blk.new w2 58 #[.int .i64 kind, .int .i64 who, .string bs]
    have HNX : Hid (∀ j, (Value.slice AO LO.length cO).ownBlock = some j → j ≠ w2.heap.size) := Lib.hid (fun j hj => by have h9 := (H.out.2.2.2.2.1.lt j hj).2; omega)
    replace H := Lib.hid (H.out.below (kF w2 (.cells #[.int .i64 kind, .int .i64 who, .string bs] 58)))
    obtain ⟨g8, hg8⟩ : ∃ g8, g8 = w2.heap.size := ⟨_, rfl⟩
    change Code.wp _ _ _ _ (w2.alloc (.cells #[.int .i64 kind, .int .i64 who, .string bs] 58))
    rw [← hg8] at BE HNX ⊢
    have hge8 : w.heap.size ≤ g8 := by rw [hg8]; exact Nat.le_trans H.out.2.2.2.2.2.2.2.2 (by have := H.out.1.lt; rw [World.size_alloc] at this; omega)
    skip
    generalize (w2.alloc (.cells #[.int .i64 kind, .int .i64 who, .string bs] 58)) = w3 at *
    clear hg8
    have e8_0 : w3.cell? ⟨g8, 0, none⟩ = some (.int .i64 kind) := BE.cell 0
    have e8_1 : w3.cell? ⟨g8, 1, none⟩ = some (.int .i64 who) := BE.cell 1
    have e8_2 : w3.cell? ⟨g8, 2, none⟩ = some (.string bs) := BE.cell 2
    have hownA := own_kept H.out.2.2.2.2.1 (kF w3 (.cells #[.int .i64 kind, .int .i64 who, .string bs] 58))
    have hnewA := new_cells w3 [.int .i64 kind, .int .i64 who, .string bs] 58
    have HNE : Hid (∀ j, (Value.slice AO LO.length cO).ownBlock = some j → j ≠ g8) := HNX
    have hbsz : w.heap.size ≤ w3.heap.size := H.out.2.2.2.2.2.2.1.size
    go_upto_region 8 with (at_builtin; refine wpList_append_own _ rfl (.tmp 19) (.tmp 21) 53 rfl w.heap.size 58 i0 _ 3 32 Try.underlying53 HI.out.1 HI.out.2.1 HI.out.2.2.1 HI.out.2.2.2 rfl (by decide) (.slice AO LO.length cO) LO.length (LO.flatMap encEv) rfl hownA ⟨w3.heap.size, 0, none⟩ 1 1 [.int .i64 kind, .int .i64 who, .string bs] rfl rfl hnewA (by simp [Value.oneCell']) (by have := hLO.out; unfold maxLen; omega) (by have := hLO.out; omega) (by simp; omega) ?_; intro v8 w8 ho8 hg8 _; obtain ⟨M, hM, hoM⟩ : ∃ M : List EvV, M.length = k + 1 ∧ OwnE w8 w.heap.size v8 M := ⟨LO ++ [(kind, who, bs)], by rw [List.length_append, hLO.out]; rfl, ownE_app (y := (kind, who, bs)) ho8⟩; obtain ⟨A8, c8, rfl, _, _, _⟩ := Sl.of_own encEv_len hoM; have H1 := Lib.hid ((H.out.below (kF w3 (.cells #[.int .i64 kind, .int .i64 who, .string bs] 58))).grow hg8 hoM); have hM8 := Lib.hid hM; have BE8 : Hid (Blk w8 g8 58 #[.int .i64 kind, .int .i64 who, .string bs]) := Lib.hid ((BE.alloc (.cells #[.int .i64 kind, .int .i64 who, .string bs] 58)).grown hg8 (fun e => HNE.out g8 e.symm rfl)); clear ho8 hg8 hM hoM)
    clear H BE HNE hownA hnewA e8_0 e8_1 e8_2
    have H := Lib.hid H1.out
    clear H1
    have c0_0 : ∀ W : World, Blk W w1.heap.size 35 #[.int .i64 now, .slice A l.length c, .slice (some ⟨b, 0, none⟩) 3 cT] ∧ Blk W g8 58 #[.int .i64 kind, .int .i64 who, .string bs] → W.cell? ⟨w1.heap.size, 0, none⟩ = some (.int .i64 now) := fun W h => h.1.cell 0
    have c0_1 : ∀ W : World, Blk W w1.heap.size 35 #[.int .i64 now, .slice A l.length c, .slice (some ⟨b, 0, none⟩) 3 cT] ∧ Blk W g8 58 #[.int .i64 kind, .int .i64 who, .string bs] → W.cell? ⟨w1.heap.size, 1, none⟩ = some (.slice A l.length c) := fun W h => h.1.cell 1
    have c0_2 : ∀ W : World, Blk W w1.heap.size 35 #[.int .i64 now, .slice A l.length c, .slice (some ⟨b, 0, none⟩) 3 cT] ∧ Blk W g8 58 #[.int .i64 kind, .int .i64 who, .string bs] → W.cell? ⟨w1.heap.size, 2, none⟩ = some (.slice (some ⟨b, 0, none⟩) 3 cT) := fun W h => h.1.cell 2
    have c1_0 : ∀ W : World, Blk W w1.heap.size 35 #[.int .i64 now, .slice A l.length c, .slice (some ⟨b, 0, none⟩) 3 cT] ∧ Blk W g8 58 #[.int .i64 kind, .int .i64 who, .string bs] → W.cell? ⟨g8, 0, none⟩ = some (.int .i64 kind) := fun W h => h.2.cell 0
    have c1_1 : ∀ W : World, Blk W w1.heap.size 35 #[.int .i64 now, .slice A l.length c, .slice (some ⟨b, 0, none⟩) 3 cT] ∧ Blk W g8 58 #[.int .i64 kind, .int .i64 who, .string bs] → W.cell? ⟨g8, 1, none⟩ = some (.int .i64 who) := fun W h => h.2.cell 1
    have c1_2 : ∀ W : World, Blk W w1.heap.size 35 #[.int .i64 now, .slice A l.length c, .slice (some ⟨b, 0, none⟩) 3 cT] ∧ Blk W g8 58 #[.int .i64 kind, .int .i64 who, .string bs] → W.cell? ⟨g8, 2, none⟩ = some (.string bs) := fun W h => h.2.cell 2
    replace H := Lib.hid (H.out.below (kE w8))
    replace BE8 := Lib.hid (BE8.out.kept (kE w8))
    have hS0 : Blk (World.drew w8) w1.heap.size 35 #[.int .i64 now, .slice A l.length c, .slice (some ⟨b, 0, none⟩) 3 cT] ∧ Blk (World.drew w8) g8 58 #[.int .i64 kind, .int .i64 who, .string bs] := ⟨H.out.1, BE8.out⟩
    have HD := Lib.hid H.out
    have BED := Lib.hid BE8.out
    refine wp_region_M (fun W => Blk W w1.heap.size 35 #[.int .i64 now, .slice A l.length c, .slice (some ⟨b, 0, none⟩) 3 cT] ∧ Blk W g8 58 #[.int .i64 kind, .int .i64 who, .string bs]) 7 (by kernel_rfl) ((by (try dsimp only); (with_reducible assumption))) (fun hHeld => ?_)
    refine wpAnyM_take (i := 0) (v := ?_) rfl (by kernel_rfl) (by kernel_rfl) (by kernel_rfl) (by kernel_rfl) (by decide) (fun _ _ _ h => h) (Or.inl ⟨by rfl, ?_⟩) (by assumption) ?_
    rotate_left 1
    · (intro w hSw; (try dsimp only at hSw); go_simp); all_goals (with_reducible rfl)
    try simp only [Act.put, List.getElem_toArray, List.getElem_cons_zero, List.setIfInBounds_toArray, List.set_cons_zero, List.set_cons_succ]
    refine wpAnyM_take (i := 2) (v := ?_) rfl (by kernel_rfl) (by kernel_rfl) (by kernel_rfl) (by kernel_rfl) (by decide) (fun _ _ _ h => h) (Or.inl ⟨by rfl, ?_⟩) (by assumption) ?_
    rotate_left 1
    · (intro w hSw; (try dsimp only at hSw); go_simp); all_goals (with_reducible rfl)
    try simp only [Act.put, List.getElem_toArray, List.getElem_cons_zero, List.getElem_cons_succ, List.setIfInBounds_toArray, List.set_cons_zero, List.set_cons_succ]
    refine wpAnyM_step (i := 1) (by kernel_rfl) rfl (by decide) (fun K hK => ?_)
    go_simp
    have hcp := l7Copy_any now A l c (some ⟨b, 0, none⟩) L cT (World.drew w8) H.out.2.1 (SlK.sl (SlK.of_own (t := 81) encTk_len (show (World.drew w8).ownsRow w.heap.size 81 8 (.slice (some ⟨b, 0, none⟩) 3 cT) L.length (L.flatMap encTk) from H.out.2.2.1))) H.out.2.2.2.1.2 (by have := H.out.2.2.2.1.1; omega)
    rw [H.out.2.2.2.1.1] at hcp
    refine hcp.mono ?_
    clear hcp
    rintro e wb ⟨A7, c7, AT7, cT7, L7, rfl, hV7, hO7, hL7, hT7, hb7⟩
    have hL3 : L7.length = 3 := hL7
    rw [hL3] at hO7 ⊢
    obtain ⟨b7, rfl, hb7a, hb7b⟩ := ownT_at hO7 hL3
    have hws : w.heap.size ≤ (World.drew w8).heap.size := H.out.2.2.2.2.2.2.1.size
    replace H := Lib.hid (H.out.below hb7)
    replace BE8 := Lib.hid (BE8.out.kept hb7)
    have hS1 : Blk wb w1.heap.size 35 #[.int .i64 now, .slice A l.length c, .slice (some ⟨b, 0, none⟩) 3 cT] ∧ Blk wb g8 58 #[.int .i64 kind, .int .i64 who, .string bs] := ⟨H.out.1, BE8.out⟩
    have H7 := Lib.hid (⟨hV7, hO7, hT7⟩ : _ ∧ _ ∧ _)
    clear hV7 hO7 hT7 hL7
    go_wp2_with fail
    refine hK.out _ _ ?_ (fun hHeld => ?_)
    · (try dsimp only); (with_reducible assumption)
    clear hK K
    try simp only [Act.put, List.getElem_toArray, List.getElem_cons_zero, List.getElem_cons_succ, List.setIfInBounds_toArray, List.set_cons_zero, List.set_cons_succ]
    refine wpAnyM_step (i := 3) (by kernel_rfl) rfl (by decide) (fun K hK => ?_)
    go_simp
    refine (l7Do_any _ now A7 l c7 b7 cT7 L7 kind who bs _ H7.out.1 H7.out.2.1 hL3 H7.out.2.2 ⟨hb7b, hb7a⟩).mono ?_
    rintro e wz ⟨now2, A2, l2, c2, L2, o2, rfl, hV2, hO2, hL2, hT2, hG2⟩
    have hb8z : Below (World.drew w8).heap.size (World.drew w8) wz := below_own hb7 hG2 hb7.size (fun j hj => by injection hj with hj; omega)
    have H8 := Lib.hid (HD.out.below hb8z)
    replace BE8 := Lib.hid (BED.out.kept hb8z)
    clear H HD
    have H := Lib.hid H8.out
    clear H8
    have hS3 : Blk wz w1.heap.size 35 #[.int .i64 now, .slice A l.length c, .slice (some ⟨b, 0, none⟩) 3 cT] ∧ Blk wz g8 58 #[.int .i64 kind, .int .i64 who, .string bs] := ⟨H.out.1, BE8.out⟩
    have hO2w : OwnT wz w.heap.size (.slice (some ⟨b7, 0, none⟩) 3 cT7) L2 := Go.Joins.ownsRow_le hO2 hws
    have H2 := Lib.hid (H.out.put now2 A2 l2 c2 b7 cT7 L2 hV2 hO2w hL2 hT2)
    have hfh := fun j => H.out.1.frozen j
    have hlh := H.out.1.lt
    have hh0 := H.out.1.cell 0
    have hh1 := H.out.1.cell 1
    have hh2 := H.out.1.cell 2
    simp only [List.getElem?_toArray, List.getElem?_cons_zero, List.getElem?_cons_succ] at hh0 hh1 hh2
    clear hV2 hO2 hT2 hG2 hO2w
    go_wp2_with fail
    refine hK.out _ _ ?_ (fun hHeld => ?_)
    · (try dsimp only); (with_reducible assumption)
    clear hK K
    try simp only [Act.put, List.getElem_toArray, List.getElem_cons_zero, List.getElem_cons_succ, List.setIfInBounds_toArray, List.set_cons_zero, List.set_cons_succ]
    refine wpAnyM_takeP (i := 4) (v := ?_) rfl (by kernel_rfl) (by kernel_rfl) (by kernel_rfl) (by decide) (fun _ _ _ h => h) (Or.inl ⟨by rfl, ?_⟩) (by assumption) ?_
    rotate_left 1
    · (intro w; go_simp); all_goals (with_reducible rfl)
    try simp only [Act.put, List.getElem_toArray, List.getElem_cons_zero, List.getElem_cons_succ, List.setIfInBounds_toArray, List.set_cons_zero, List.set_cons_succ]
    refine wpAnyM_takeP (i := 5) (v := ?_) rfl (by kernel_rfl) (by kernel_rfl) (by kernel_rfl) (by decide) (fun _ _ _ h => h) (Or.inl ⟨by rfl, ?_⟩) (by assumption) ?_
    rotate_left 1
    · (intro w; go_simp); all_goals (with_reducible rfl)
    try simp only [Act.put, List.getElem_toArray, List.getElem_cons_zero, List.getElem_cons_succ, List.setIfInBounds_toArray, List.set_cons_zero, List.set_cons_succ]
    refine wpAnyM_takeP (i := 6) (v := ?_) rfl (by kernel_rfl) (by kernel_rfl) (by kernel_rfl) (by decide) (fun _ _ _ h => h) (Or.inl ⟨by rfl, ?_⟩) (by assumption) ?_
    rotate_left 1
    · (intro w; go_simp); all_goals (with_reducible rfl)
    try simp only [Act.put, List.getElem_toArray, List.getElem_cons_zero, List.getElem_cons_succ, List.setIfInBounds_toArray, List.set_cons_zero, List.set_cons_succ]
    refine wpAnyM_last (by kernel_rfl) rfl (fun K hK => ?_)
    go_simp
    refine hK.out _ _ ?_
    clear hK K
    try simp only [Act.put, List.getElem_toArray, List.getElem_cons_zero, List.getElem_cons_succ, List.setIfInBounds_toArray, List.set_cons_zero, List.set_cons_succ]
    refine wpAny_done (by kernel_rfl) ?_ _
    clear hS3 hfh hlh hh0 hh1 hh2
    go_wp2_with fail
    go_roundw
    case rel => exact ⟨k + 1, q2, now2, A2, l2, c2, b7, cT7, L2, M, A8, c8, by omega, by omega, by go_num, rfl, hM8, H2⟩
    case measure => simp [intOf]; omega
set_option maxRecDepth 100000 in
set_option maxHeartbeats 4000000 in
theorem drawHO_any (A : Option Addr) (bs : List UInt8) (c : Nat) (w : World) (hn : bs.length ≤ 1048576) (hc : bs.length ≤ c) (hm : c ≤ maxLen) (hS : Sl encU 1 w A bs) : Calls Try.prog 24 #[.slice A bs.length c] w (DrawHO w) := by
  go_enter Try.func24, Try.ntmps24
  go_wp2_with fail
  refine (open_any A bs c w hn hc hm hS).mono ?_
  rintro e w1 ⟨bs', c', g, rfl, hR1, hb1⟩
  go_wp2_with fail
  have hg1 := hR1.1.lt
  have S1 := Sl.litN w1 3 l7Nd #[.int .i64 6, .int .i64 10, .int .i64 3, .int .i64 0] rfl
  have hRa := hR1.alloc (.cells #[.int .i64 6, .int .i64 10, .int .i64 3, .int .i64 0] 3)
  refine (num_any w A bs' c' g 0 _ l7Nd 4 _ hRa (by omega) (by decide) S1 (by intro b o h; simp at h; omega)).mono ?_
  rintro e w2 ⟨nx, hnx, rfl, hR2, hG2⟩
  obtain ⟨n, rfl, hn8⟩ : ∃ n : Nat, nx = (n : Int) ∧ n ≤ 10 := ⟨nx.toNat, by have := l7Nd_le nx hnx; omega, by have := l7Nd_le nx hnx; omega⟩
  clear hRa S1 hnx hR1 hG2
  go_wp2_with fail
  refine (l7Evs_any w A bs' c' g 1 n _ hR2 (by omega) hn8).mono ?_
  rintro e w3 ⟨AO, LO, cO, q, rfl, hSl, hLO, hOE, hq, hR3, hG3⟩
  have HLO := Lib.hid hLO
  clear hLO
  have hg2 := hR2.1.lt
  have hg3 := hR3.1.lt
  have S1 := Sl.litN w3 3 l7Ne #[.int .i64 0, .int .i64 1, .int .i64 2, .int .i64 (-1), .int .i64 3] rfl
  have hRa := hR3.alloc (.cells #[.int .i64 0, .int .i64 1, .int .i64 2, .int .i64 (-1), .int .i64 3] 3)
  have hoa := own_kept hOE (kF w3 (.cells #[.int .i64 0, .int .i64 1, .int .i64 2, .int .i64 (-1), .int .i64 3] 3))
  clear hG3 hSl hOE
  go_wp2_with fail
  refine (num_any w A bs' c' g q _ l7Ne 5 _ hRa (by omega) (by decide) S1 (by intro b o h; simp at h; omega)).mono ?_
  rintro e w4 ⟨wx, _, rfl, hR4, hG4⟩
  have HO4 : Hid (OwnE w4 w2.heap.size (.slice AO LO.length cO) LO) := Lib.hid (own_gr hoa hG4 hg2)
  have hbe := hR4.2.1
  clear hRa S1 hoa hR3 hR2 hR4 hG4
  go_wp2
  go_ret2
  exact ⟨AO, LO, cO, wx, rfl, SlK.sl (SlK.of_own encEv_len HO4.out), by have := HLO.out; omega, hbe⟩

end Go.Proofs.Ytpjkcmmmpgncmaa
