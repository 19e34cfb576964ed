import Derived.Deep.RegionWith
import Derived.Deep.RegionLaw
import Derived.Test.YtpjkcmmmpgncmaaM11
import Derived.Test.YtpjkcmmmpgncmaaM13
import Derived.Test.YtpjkcmmmpgncmaaM03
import Derived.Test.YtpjkcmmmpgncmaaM21
import Derived.Test.YtpjkcmmmpgncmaaM24
/- The reference's l2Some: a store is drawn. -/
namespace Go.Proofs.Ytpjkcmmmpgncmaa
open Go.RowKit
theorem atL_fits {l : List Ver} {t : Int} (hf : FitsV l) : ∀ x ∈ atL l t, x.1.size ≤ maxLen := by
  intro x hx
  unfold atL at hx
  obtain ⟨y, hy, rfl⟩ := List.mem_map.1 hx
  exact hf.2 y (List.mem_filter.1 hy).1
/-- what stands while a store is drawn -/
def SM (w0 w : World) (A : Option Addr) (bs : List UInt8) (c g : Nat) (now : Int) (l : List Ver) (A5 : Option Addr) (c5 q : Nat) (W : World) : Prop :=
  versB now l = true ∧ FitsV l ∧ Blk W (w.heap.size + 2) 32 #[.int .i64 now, .slice A5 l.length c5] ∧ Blk W w.heap.size 32 #[.int .i64 0, .slice none 0 0] ∧ OwnV W w.heap.size (.slice A5 l.length c5) l ∧ Rd w0 W A bs c g q ∧ w.grownBy W (some g)
theorem SM.below {w0 w : World} {A : Option Addr} {bs : List UInt8} {c g : Nat} {now : Int} {l : List Ver} {A5 : Option Addr} {c5 q : Nat} {W W' : World} (h : SM w0 w A bs c g now l A5 c5 q W) (hb : Below W.heap.size W W') : SM w0 w A bs c g now l A5 c5 q W' := by
  obtain ⟨h1, h2, h3, h4, h5, h6, h7⟩ := h
  exact ⟨h1, h2, h3.kept hb, h4.kept hb, own_kept h5 hb, h6.below hb, gr_trans h7 (gr_below hb)⟩
theorem SM.draw {w0 w : World} {A : Option Addr} {bs : List UInt8} {c g : Nat} {now : Int} {l : List Ver} {A5 : Option Addr} {c5 q q' : Nat} {W W' : World} (h : SM w0 w A bs c g now l A5 c5 q W) (hR : Rd w0 W' A bs c g q') (hg : W.grownBy W' (some g)) (hgl : g < w.heap.size) : SM w0 w A bs c g now l A5 c5 q' W' := by
  obtain ⟨h1, h2, h3, h4, h5, h6, h7⟩ := h
  exact ⟨h1, h2, h3.grown hg (by simp; omega), h4.grown hg (by simp; omega), own_gr h5 hg hgl, hR, gr_trans h7 hg⟩
end Go.Proofs.Ytpjkcmmmpgncmaa
