/- A region that draws its order, all of whose writes are new blocks: each order comes to one end. Conditions: as each law says. -/
import Derived.Deep.RegionHeld3
import Derived.Below
namespace Go.Proofs.Ytpgceeeokjadpaa.Mem
open Go Go.RowKit
/-- w' is w and new blocks. -/
def Grow (w w' : World) : Prop := Below w.heap.size w w'
theorem Grow.refl (w : World) : Grow w w := Below.refl _ _
theorem Grow.trans {a b c : World} (h : Grow a b) (h' : Grow b c) : Grow a c := Below.trans h (h'.mono h.size)
variable {P : Program} {ops : Array Oper} {Q : Exit → Act → World → Prop} {md : Region.Mode}
theorem wpAnyH_mono {S S' : World → Prop} (hs : ∀ w, S' w → S w) : ∀ (fuel : Nat) (listed : Array Bool) (a : Act) (w : World), wpAnyH P md ops Q S' fuel listed a w → wpAnyH P md ops Q S fuel listed a w
  | 0, _, _, _, h => h
  | fuel + 1, _, _, _, h => ⟨h.1, fun i hi => wpOp_mono (fun a' w' h' => ⟨hs w' h'.1, wpAnyH_mono hs fuel _ a' w' h'.2⟩) (h.2 i hi)⟩
theorem grow_base {w0 w : World} (hg : Grow w0 w) {fuel : Nat} {listed : Array Bool} {a : Act} (h : wpAnyH P md ops Q (Grow w) fuel listed a w) : wpAnyH P md ops Q (Grow w0) fuel listed a w :=
  wpAnyH_mono (fun _ h' => hg.trans h') _ _ _ _ h
theorem wp_region_grow {id : Nat} {a : Act} {w : World} (hm : P.follows .mixedOrders = true)
    (h : wpAnyH P .any ops Q (Grow w.drew) ops.size (Array.replicate ops.size false) a w.drew) : (Code.region id ops true).wp P Q a w := wp_region_held hm h
end Go.Proofs.Ytpgceeeokjadpaa.Mem
