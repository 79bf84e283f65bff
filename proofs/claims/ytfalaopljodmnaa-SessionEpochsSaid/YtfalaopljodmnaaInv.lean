/- A region that draws its order, by an invariant: each operation once, whatever has come ahead of it. No program in sight. -/
import Derived.Orders
import Derived.Tactics
import Derived.Deep.QuietTactic
import Derived.BigQuiet
import Derived.Test.YtfalaopljodmnaaBase
namespace Go.Proofs.Ytfalaopljodmnaa

/-- Which operations are done, with one more. -/
def up (d : Nat → Bool) (i : Nat) : Nat → Bool := fun j => bif j == i then true else d j

/-- What must be done ahead of an operation. -/
def needs (o : Oper) : List Nat := (o.after.toList.filter (Region.binds .any)).map (·.on)

/-- Each operation keeps the invariant. -/
def invSteps (P : Program) (ops : Array Oper) (Q : Exit → Act → World → Prop) (J : (Nat → Bool) → Act → World → Prop) : Nat → List Oper → Prop
  | _, [] => True
  | k, o :: r => (∀ d a w, d k = false → (∀ j ∈ needs o, d j = true) → J d a w → wpList P ops (Exit.then (J (up d k)) Q) [o] a w) ∧ invSteps P ops Q J (k + 1) r

theorem invSteps_get {P : Program} {ops : Array Oper} {Q : Exit → Act → World → Prop} {J : (Nat → Bool) → Act → World → Prop} : ∀ (l : List Oper) (k : Nat), invSteps P ops Q J k l → ∀ i o, l[i]? = some o →
    ∀ d a w, d (k + i) = false → (∀ j ∈ needs o, d j = true) → J d a w → wpList P ops (Exit.then (J (up d (k + i))) Q) [o] a w
  | [], _, _, i, o, h => by simp at h
  | x :: r, k, h, 0, o, ho => by
    obtain rfl : x = o := by simpa using ho
    exact h.1
  | x :: r, k, h, i + 1, o, ho => by
    have := invSteps_get r (k + 1) h.2 i o (by simpa using ho)
    rw [show k + (i + 1) = k + 1 + i from by omega]
    exact this

/-- Everything needed lies ahead in the text. -/
def lexNeeds (l : List Oper) : Bool := (l.zipIdx).all fun p => (needs p.1).all fun j => decide (j < p.2)

def doneOf (L : Array Bool) : Nat → Bool := fun j => L.getD j false

theorem doneOf_set (L : Array Bool) (i : Nat) (h : i < L.size) : doneOf (L.setIfInBounds i true) = up (doneOf L) i := by
  funext j
  unfold doneOf up
  by_cases e : j = i
  · subst e
    simp [h]
  · rw [getD_set_ne false (Ne.symm e)]
    simp [e]

theorem wpOp_of_list {P : Program} {ops : Array Oper} {Q : Exit → Act → World → Prop} {i : Nat} {o : Oper} {K : Act → World → Prop} {a : Act} {w : World} (ho : ops[i]? = some o) 
    (h : wpList P ops (Exit.then K Q) [o] a w) : wpOp P ops Q i K a w := by
  unfold wpOp
  simp only [ho]
  unfold wpList at h
  split
  · rename_i hw
    simp only [hw, if_true] at h
    rcases h with h | ⟨h, h2⟩
    · left
      unfold Oper.wp at *
      generalize (execOp a.eval o).run P w = r at *
      cases r with
      | ok n w' =>
        cases n <;> simp only [Oper.upon] at h ⊢
        case value => exact h
        case skip => exact h
        case defer => exact h
        case enter f args =>
          refine Calls.mono h fun e w'' he => ?_
          cases e with
          | returned v => exact he
          | panicked c => exact he
          | outgrown => exact he
        case row => exact Rows.mono h fun _ _ he => he
      | halt x w' =>
        cases x <;> simp only [Oper.upon] at h ⊢
        exact h
    · exact .inr ⟨h, h2⟩
  · rename_i hw
    simp only [hw] at h
    exact h

theorem wpAny_inv {P : Program} {ops : Array Oper} {Q : Exit → Act → World → Prop} (J : (Nat → Bool) → Act → World → Prop)
    (hstep : invSteps P ops Q J 0 ops.toList) (hlex : lexNeeds ops.toList = true) (hdone : ∀ d a w, (∀ j, j < ops.size → d j = true) → J d a w → Q .normal a w) :
    ∀ (fuel : Nat) (L : Array Bool) (a : Act) (w : World), L.size = ops.size → L.toList.countP (· == false) ≤ fuel → J (doneOf L) a w → wpAny P .any ops Q fuel L a w := by
  have hfin : ∀ (L : Array Bool) (a : Act) (w : World), L.size = ops.size → Region.ready .any ops L = [] → J (doneOf L) a w → Q .normal a w := by
    intro L a w hs hr hJ
    refine hdone _ a w ?_ hJ
    intro j
    induction j using Nat.strongRecOn with
    | _ j ih =>
      intro hj
      cases hd : doneOf L j with
      | true => rfl
      | false =>
        exfalso
        have hm : j ∈ Region.ready .any ops L := by
          rw [mem_ready]
          refine ⟨?_, ops[j], by simp [hj], ?_⟩
          · unfold doneOf at hd
            rw [Array.getD_eq_getD_getElem?, Array.getElem?_eq_getElem (by omega)] at hd ⊢
            exact hd
          · intro e he hb
            have h1 : lexNeeds ops.toList = true := hlex
            unfold lexNeeds at h1
            rw [List.all_eq_true] at h1
            have h2 := h1 (ops[j], j) (by rw [List.mk_mem_zipIdx_iff_getElem?]; simp [hj])
            rw [List.all_eq_true] at h2
            have h3 := h2 e.on (by unfold needs; exact List.mem_map.2 ⟨e, List.mem_filter.2 ⟨by simpa using he, hb⟩, rfl⟩)
            have h4 : e.on < j := by simpa using h3
            exact ih e.on h4 (by omega)
        rw [hr] at hm
        cases hm
  intro fuel
  induction fuel with
  | zero =>
    intro L a w hs hc hJ
    have hr : Region.ready .any ops L = [] := by
      cases hr : Region.ready .any ops L with
      | nil => rfl
      | cons i r =>
        exfalso
        have hm : i ∈ Region.ready .any ops L := by rw [hr]; simp
        obtain ⟨h0, o, ho, _⟩ := mem_ready.1 hm
        have hi : i < L.size := by rw [hs]; exact (Array.getElem?_eq_some_iff.1 ho).1
        have : 0 < L.toList.countP (· == false) := by
          rw [List.countP_pos_iff]
          refine ⟨L[i], by simp, ?_⟩
          rw [Array.getD_eq_getD_getElem?, Array.getElem?_eq_getElem hi] at h0
          have h0 : L[i] = false := h0
          simp [h0]
        omega
    exact ⟨hr, hfin L a w hs hr hJ⟩
  | succ fuel ih =>
    intro L a w hs hc hJ
    refine ⟨fun hr => hfin L a w hs hr hJ, fun i hi => ?_⟩
    obtain ⟨h0, o, ho, hall⟩ := mem_ready.1 hi
    have hil : i < L.size := by rw [hs]; exact (Array.getElem?_eq_some_iff.1 ho).1
    have hLi : L[i] = false := by
      rw [Array.getD_eq_getD_getElem?, Array.getElem?_eq_getElem hil] at h0
      exact h0
    have hd0 : doneOf L (0 + i) = false := by
      rw [Nat.zero_add]
      unfold doneOf
      rw [Array.getD_eq_getD_getElem?, Array.getElem?_eq_getElem hil]
      exact hLi
    have hst := invSteps_get ops.toList 0 hstep i o (by rw [Array.getElem?_toList]; exact ho) (doneOf L) a w hd0 (by
      intro j hj
      unfold needs at hj
      obtain ⟨e, he, rfl⟩ := List.mem_map.1 hj
      obtain ⟨he1, he2⟩ := List.mem_filter.1 he
      exact hall e (by simpa using he1) he2) hJ
    rw [Nat.zero_add] at hst
    refine wpOp_mono (fun a' w' h => ?_) (wpOp_of_list ho hst)
    refine ih _ a' w' (by simpa using hs) ?_ (by rw [doneOf_set L i hil]; exact h)
    have hcount : (L.setIfInBounds i true).toList.countP (· == false) + 1 = L.toList.countP (· == false) := by
      rw [Array.toList_setIfInBounds]
      have := List.countP_set (p := fun x : Bool => x == false) (l := L.toList) (i := i) (a := true) (by simpa using hil)
      have hz : L.toList[i]'(by simpa using hil) = false := by simpa using hLi
      rw [this, hz]
      have hpos : 0 < L.toList.countP (· == false) := by
        rw [List.countP_pos_iff]
        exact ⟨L[i], by simp, by simp [hLi]⟩
      have e1 : (if ((false : Bool) == false) = true then 1 else 0) = 1 := rfl
      have e2 : (if ((true : Bool) == false) = true then 1 else 0) = 0 := rfl
      rw [e1, e2]
      omega
    omega

/-- A region that draws its order, by an invariant. -/
theorem wp_region_inv {P : Program} {id : Nat} {l : List Oper} {Q : Exit → Act → World → Prop} {a : Act} {w : World} (J : (Nat → Bool) → Act → World → Prop) (hm : P.follows .mixedOrders = true)
    (hlex : lexNeeds l = true) (h0 : J (fun _ => false) a { w with drawn := w.drawn + 1 }) (hstep : invSteps P l.toArray Q J 0 l) (hdone : ∀ d a w, (∀ j, j < l.length → d j = true) → J d a w → Q .normal a w) :
    (Code.region id l.toArray true).wp P Q a w := by
  refine wp_region_any hm (wpAny_inv J (by simpa using hstep) (by simpa using hlex) (fun d a w h hJ => hdone d a w (by simpa using h) hJ) _ _ a _ (by simp) ?_ ?_)
  · simp only [Array.toList_replicate, List.size_toArray]
    exact Nat.le_trans List.countP_le_length (by simp)
  · have e : doneOf (Array.replicate l.toArray.size false) = fun _ => false := by
      funext j
      unfold doneOf
      rw [Array.getD_eq_getD_getElem?, Array.getElem?_replicate]
      split <;> rfl
    rw [e]
    exact h0

theorem invSteps_cons {P : Program} {ops : Array Oper} {Q : Exit → Act → World → Prop} {J : (Nat → Bool) → Act → World → Prop} {k : Nat} {o : Oper} {r : List Oper}
    (h : ∀ d a w, d k = false → (∀ j ∈ needs o, d j = true) → J d a w → wpList P ops (Exit.then (J (up d k)) Q) [o] a w) (h2 : invSteps P ops Q J (k + 1) r) : invSteps P ops Q J k (o :: r) := ⟨h, h2⟩

/-- A call that leaves the world alone, in a quiet region behind another one. -/
theorem still_q {P : Program} {f : FuncId} {args : Array Value} {w W : World} {a n : Nat} {v : Value} (e : W = w.drewN (a + n)) (h : Calls P f args W fun e w' => e = .returned v ∧ w' = W) :
    Calls P f args W fun e w'' => e = .returned v ∧ ∃ m, w'' = w.drewN (a + m) :=
  h.mono fun _ _ q => ⟨q.1, n, q.2.trans e⟩

/-- The same, where the callee draws. -/
theorem draws_q {P : Program} {f : FuncId} {args : Array Value} {w W : World} {a n : Nat} {v : Value} (e : W = w.drewN (a + n)) (h : Calls P f args W fun e w' => e = .returned v ∧ ∃ m, w' = W.drewN m) :
    Calls P f args W fun e w'' => e = .returned v ∧ ∃ m, w'' = w.drewN (a + m) :=
  h.mono fun _ _ ⟨q, m, hm⟩ => ⟨q, n + m, by rw [hm, e, World.drewN_drewN, Nat.add_assoc]⟩

end Go.Proofs.Ytfalaopljodmnaa
