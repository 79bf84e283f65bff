/- A region that draws its order, in an order of one's own: what reads only cells that stay is taken first, the rest one by one. No program in sight. -/
import Derived.OrdersHeld
import Derived.Deep.RegionHeld3
import Derived.Test.YtfalaopljodmnaaInv
namespace Go.Proofs.Ytfalaopljodmnaa

variable {P : Program} {ops : Array Oper} {Q : Exit → Act → World → Prop} {md : Region.Mode}

theorem wpAnyH_mono {S S2 : World → Prop} (h : ∀ w, S2 w → S w) : ∀ (fuel : Nat) (listed : Array Bool) (a : Act) (w : World), wpAnyH P md ops Q S2 fuel listed a w → wpAnyH P md ops Q S fuel listed a w
  | 0, _, _, _, k => k
  | fuel + 1, _, _, _, k => ⟨k.1, fun i hi => wpOp_mono (fun a' w' h' => ⟨h w' h'.1, wpAnyH_mono h fuel _ a' w' h'.2⟩) (k.2 i hi)⟩

/-- One operation that may be taken first. -/
theorem plan_take {l : List Oper} {S : World → Prop} (k : Nat) {oi : Oper} {v : Value} {fuel : Nat} {listed : Array Bool} {a : Act} {w : World} (hi : l[k]? = some oi)
    (hs : Region.noSelect l.toArray = true) (hf : Region.free md l.toArray listed k = true) (hr : (Region.ready md l.toArray listed).contains k = true)
    (hQ : ∀ c a w, Q (.panic c) (a.put oi.dst v) w → Q (.panic c) a w) (hw : Region.wanted oi (yielded l.toArray a.tmps) = true) (hS : S w) (hy : ∀ w, S w → (execOp a.eval oi).run P w = .ok (.value v) w)
    (h : wpAnyH P md l.toArray Q S fuel (listed.setIfInBounds k true) (a.put oi.dst v) w) : wpAnyH P md l.toArray Q S (fuel + 1) listed a w :=
  wpAnyH_take (by rw [List.getElem?_toArray]; exact hi) hs hf hr hQ (.inl ⟨hw, hy⟩) hS h

/-- One whose guard says no. -/
theorem plan_skip {l : List Oper} {S : World → Prop} (k : Nat) {oi : Oper} {fuel : Nat} {listed : Array Bool} {a : Act} {w : World} (hi : l[k]? = some oi)
    (hs : Region.noSelect l.toArray = true) (hf : Region.free md l.toArray listed k = true) (hr : (Region.ready md l.toArray listed).contains k = true)
    (hQ : ∀ c a w, Q (.panic c) (a.put oi.dst undef) w → Q (.panic c) a w) (hw : Region.wanted oi (yielded l.toArray a.tmps) = false) (hS : S w)
    (h : wpAnyH P md l.toArray Q S fuel (listed.setIfInBounds k true) (a.put oi.dst undef) w) : wpAnyH P md l.toArray Q S (fuel + 1) listed a w :=
  wpAnyH_take (by rw [List.getElem?_toArray]; exact hi) hs hf hr hQ (.inr ⟨hw, rfl⟩) hS h

/-- One operation that is the only one that may come up: walked; a stronger S may be taken behind it. -/
theorem plan_step {l : List Oper} {S : World → Prop} (k : Nat) {fuel : Nat} {o : Oper} {listed : Array Bool} {a : Act} {w : World} (ho : l[k]? = some o) (hr : Region.ready md l.toArray listed = [k])
    (h : ∀ K : Act → World → Prop, (∀ (S2 : World → Prop) a' w', (∀ w, S2 w → S w) → S2 w' → wpAnyH P md l.toArray Q S2 fuel (listed.setIfInBounds k true) a' w' → K a' w') → wpList P l.toArray (Exit.then K Q) [o] a w) :
    wpAnyH P md l.toArray Q S (fuel + 1) listed a w := by
  refine wpAnyH_all hr (by simp) fun i hi => ?_
  obtain rfl : i = k := by simpa using hi
  exact wpOp_of_list (by rw [List.getElem?_toArray]; exact ho) (h _ fun S2 a' w' h1 h2 h3 => ⟨h1 w' h2, wpAnyH_mono h1 _ _ _ _ h3⟩)

/-- The beginning. -/
theorem plan_start {l : List Oper} {id : Nat} {a : Act} {w : World} (S : World → Prop) (hm : P.follows .mixedOrders = true)
    (h : wpAnyH P .any l.toArray (NoPanic Q) S l.toArray.size (Array.replicate l.toArray.size false) a w.drew) : (Code.region id l.toArray true).wp P Q a w :=
  wp_region_noPanic (wp_region_held hm h)

/-- The end. -/
theorem plan_done {S : World → Prop} {listed : Array Bool} {a : Act} {w : World} (hr : Region.ready md ops listed = []) (h : Q .normal a w) (fuel : Nat) : wpAnyH P md ops (NoPanic Q) S fuel listed a w :=
  wpAnyH_done hr (NoPanic.normal h) fuel

end Go.Proofs.Ytfalaopljodmnaa
