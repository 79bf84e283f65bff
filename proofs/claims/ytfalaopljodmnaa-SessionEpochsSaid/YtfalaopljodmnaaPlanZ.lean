/- A region that draws its order, in an order of one's own, with bars: an operation of Z waits for all that was taken ahead of it, and behind it S may be another one. No program in sight. -/
import Derived.Test.YtfalaopljodmnaaPlan
namespace Go.Proofs.Ytfalaopljodmnaa

variable {P : Program} {ops : Array Oper} {Q : Exit → Act → World → Prop} {md : Region.Mode} {Z : List Nat}

/-- What is done holds all that it waits for. -/
def Closed (md : Region.Mode) (ops : Array Oper) (listed : Array Bool) : Prop :=
  ∀ j o, ops[j]? = some o → listed.getD j false = true → ∀ e ∈ o.after, Region.binds md e = true → listed.getD e.on false = true

def edgeB (md : Region.Mode) (ops : Array Oper) (x y : Nat) : Bool := (ops[x]?).any fun o => o.after.any fun e => Region.binds md e && e.on == y

def chainB (md : Region.Mode) (ops : Array Oper) : Nat → List Nat → Bool
  | _, [] => true
  | z, q :: p => edgeB md ops z q && chainB md ops q p

theorem edge_listed {listed : Array Bool} {x y : Nat} (he : edgeB md ops x y = true) (h : ∀ o, ops[x]? = some o → ∀ e ∈ o.after, Region.binds md e = true → listed.getD e.on false = true) : listed.getD y false = true := by
  unfold edgeB at he
  cases ho : ops[x]? with
  | none => rw [ho] at he; simp at he
  | some o =>
    rw [ho] at he
    simp only [Option.any_some] at he
    obtain ⟨e, h1, h2⟩ := Array.any_eq_true'.1 he
    simp only [Bool.and_eq_true, beq_iff_eq] at h2
    rw [← h2.2]
    exact h o ho e h1 h2.1

theorem chain_listed {listed : Array Bool} (hc : Closed md ops listed) : ∀ (p : List Nat) (q i : Nat), chainB md ops q p = true → (q :: p).getLast? = some i → listed.getD q false = true → listed.getD i false = true
  | [], q, i, _, hl, h => by simp at hl; subst hl; exact h
  | r :: p, q, i, hp, hl, h => by
    simp only [chainB, Bool.and_eq_true] at hp
    refine chain_listed hc p r i hp.2 (by simpa using hl) (edge_listed hp.1 fun o ho e he hb => hc q o ho h e he hb)

/-- Whatever order is picked from here on; S holds behind every operation that is no bar; behind a bar it may be another one. -/
def wpZ (P : Program) (md : Region.Mode) (ops : Array Oper) (Q : Exit → Act → World → Prop) (Z : List Nat) : Nat → (World → Prop) → Array Bool → Act → World → Prop
  | 0, _, listed, a, w => Region.ready md ops listed = [] ∧ Q .normal a w
  | fuel + 1, S, listed, a, w =>
    (Region.ready md ops listed = [] → Q .normal a w) ∧
    ∀ i ∈ Region.ready md ops listed, wpOp P ops Q i (fun a' w' => if Z.contains i = true then ∃ S', wpZ P md ops Q Z fuel S' (listed.setIfInBounds i true) a' w' else S w' ∧ wpZ P md ops Q Z fuel S (listed.setIfInBounds i true) a' w') a w

theorem wpAny_of_Z : ∀ (fuel : Nat) (S : World → Prop) (listed : Array Bool) (a : Act) (w : World), wpZ P md ops Q Z fuel S listed a w → wpAny P md ops Q fuel listed a w
  | 0, _, _, _, _, h => h
  | fuel + 1, S, _, _, _, h => ⟨h.1, fun i hi => wpOp_mono (fun a' w' h' => by
      split at h'
      · obtain ⟨S', h'⟩ := h'; exact wpAny_of_Z fuel S' _ a' w' h'
      · exact wpAny_of_Z fuel S _ a' w' h'.2) (h.2 i hi)⟩

theorem wpZ_mono {S S2 : World → Prop} (h : ∀ w, S2 w → S w) : ∀ (fuel : Nat) (listed : Array Bool) (a : Act) (w : World), wpZ P md ops Q Z fuel S2 listed a w → wpZ P md ops Q Z fuel S listed a w
  | 0, _, _, _, k => k
  | fuel + 1, _, _, _, k => ⟨k.1, fun i hi => wpOp_mono (fun a' w' h' => by
      split at h'
      · rename_i hz; rw [if_pos hz]; exact h'
      · rename_i hz; rw [if_neg hz]; exact ⟨h w' h'.1, wpZ_mono h fuel _ a' w' h'.2⟩) (k.2 i hi)⟩

theorem Closed.next {listed : Array Bool} {i : Nat} (hc : Closed md ops listed) (hr : i ∈ Region.ready md ops listed) : Closed md ops (listed.setIfInBounds i true) := by
  intro j o ho hj e he hb
  refine getD_set_true ?_
  by_cases hji : j = i
  · subst hji
    obtain ⟨_, o', ho', hall⟩ := mem_ready.1 hr
    rw [ho] at ho'; cases ho'
    exact hall e he hb
  · rw [getD_set_ne false (Ne.symm hji)] at hj
    exact hc j o ho hj e he hb

theorem wpZ_first {i : Nat} {oi : Oper} {v : Value} {S : World → Prop} (hi : ops[i]? = some oi) (hsel : ∀ (j : Nat) (o : Oper) cs b, ops[j]? = some o → o.op ≠ .select cs b)
    (hQ : ∀ c a w, Q (.panic c) (a.put oi.dst v) w → Q (.panic c) a w) (hiz : Z.contains i = false) :
    ∀ (fuel : Nat) (listed : Array Bool) (a : Act) (w : World),
      (∀ j oj, ops[j]? = some oj → j ≠ i → listed.getD j true = false → (∀ e ∈ oj.after, Region.binds md e = true → e.on ≠ i) → oi.apart ops oj = true) →
      (∀ z, Z.contains z = true → listed.getD z true = false → ∃ p, chainB md ops z p = true ∧ p.getLast? = some i) → Closed md ops listed →
      i ∈ Region.ready md ops listed → YieldsIf P ops S oi v a → S w →
      wpZ P md ops Q Z fuel S (listed.setIfInBounds i true) (a.put oi.dst v) w → wpZ P md ops Q Z (fuel + 1) S listed a w := by
  intro fuel
  induction fuel with
  | zero =>
    intro listed a w _ _ _ hr hy hS H
    refine ⟨fun h => (by rw [h] at hr; cases hr), fun j hj => ?_⟩
    by_cases hji : j = i
    · subst hji
      refine hy.wpOp hi hS ?_
      rw [if_neg (by simpa using hiz)]
      exact ⟨hS, H⟩
    · have := ready_mono hj hji
      rw [H.1] at this
      cases this
  | succ fuel ih =>
    intro listed a w hfree hZ hc hr hy hS H
    refine ⟨fun h => (by rw [h] at hr; cases hr), fun j hj => ?_⟩
    by_cases hji : j = i
    · subst hji
      refine hy.wpOp hi hS ?_
      rw [if_neg (by simpa using hiz)]
      exact ⟨hS, H⟩
    · have h1 := H.2 j (ready_mono hj hji)
      obtain ⟨hjun, oj, hoj, hall⟩ := mem_ready.1 hj
      have hiun : listed.getD i false = false := by
        have h0 := (mem_ready.1 hr).1
        rcases Nat.lt_or_ge i listed.size with h' | h'
        · simp [h'] at h0 ⊢; exact h0
        · simp [Array.getElem?_eq_none h']
      have hjz : ¬ Z.contains j = true := fun hz => by
        obtain ⟨p, hp, hl⟩ := hZ j hz hjun
        match p, hp, hl with
        | [], _, hl => simp at hl
        | q :: p, hp, hl =>
          simp only [chainB, Bool.and_eq_true] at hp
          have hq := edge_listed (listed := listed) hp.1 (fun o ho e he hb => by rw [hoj] at ho; cases ho; exact hall e he hb)
          have := chain_listed hc p q i hp.2 hl hq
          rw [hiun] at this; cases this
      have hjz' : Z.contains j = false := Bool.eq_false_iff.2 hjz
      simp only [hjz', Bool.false_eq_true, if_false] at h1 ⊢
      have hnot : ∀ e ∈ oj.after, Region.binds md e = true → e.on ≠ i := fun e he hb heq => by
        have h1 := hall e he hb
        rw [heq, hiun] at h1; cases h1
      have h2 := wpOp_putIf hoj (hfree j oj hoj hji hjun hnot) (fun cs b => hsel i oi cs b hi) (fun cs b => hsel j oj cs b hoj) hQ hy h1
      have hfree' : ∀ k ok, ops[k]? = some ok → k ≠ i → (listed.setIfInBounds j true).getD k true = false →
          (∀ e ∈ ok.after, Region.binds md e = true → e.on ≠ i) → oi.apart ops ok = true := fun k ok hk hki hun hno => by
        refine hfree k ok hk hki ?_ hno
        by_cases hjk : j = k
        · subst hjk; exact hjun
        · rw [getD_set_ne true hjk] at hun; exact hun
      have hZ' : ∀ z, Z.contains z = true → (listed.setIfInBounds j true).getD z true = false → ∃ p, chainB md ops z p = true ∧ p.getLast? = some i := fun z hz hun => by
        refine hZ z hz ?_
        by_cases hjk : j = z
        · subst hjk; exact hjun
        · rw [getD_set_ne true hjk] at hun; exact hun
      refine wpOp_mono (fun a' w' h3 => ⟨h3.2.1, ih (listed.setIfInBounds j true) a' w' hfree' hZ' (hc.next hj) (ready_mono hr (Ne.symm hji)) h3.1 h3.2.1 ?_⟩) h2
      rw [Array.setIfInBounds_comm _ _ hji]
      exact h3.2.2

/-- The goal of a walk in an order of one's own. -/
def PZ (P : Program) (md : Region.Mode) (ops : Array Oper) (Q : Exit → Act → World → Prop) (Z : List Nat) (fuel : Nat) (S : World → Prop) (listed : Array Bool) (a : Act) (w : World) : Prop :=
  Closed md ops listed → wpZ P md ops Q Z fuel S listed a w

theorem wpZ_take {l : List Oper} {S : World → Prop} (k : Nat) {oi : Oper} {v : Value} {fuel : Nat} {listed : Array Bool} {a : Act} {w : World} (ps : List (List Nat)) (hi : l[k]? = some oi)
    (hs : Region.noSelect l.toArray = true) (hf : Region.free md l.toArray listed k = true) (hr : (Region.ready md l.toArray listed).contains k = true)
    (hz : (!Z.contains k && Z.all fun z => listed.getD z true || ps.any fun p => chainB md l.toArray z p && p.getLast? == some k) = true)
    (hQ : ∀ c a w, Q (.panic c) (a.put oi.dst v) w → Q (.panic c) a w) (hy : YieldsIf P l.toArray S oi v a) (hS : S w)
    (h : PZ P md l.toArray Q Z fuel S (listed.setIfInBounds k true) (a.put oi.dst v) w) : PZ P md l.toArray Q Z (fuel + 1) S listed a w := by
  intro hc
  have hr' : k ∈ Region.ready md l.toArray listed := by simpa using hr
  simp only [Bool.and_eq_true, Bool.not_eq_true', List.all_eq_true] at hz
  refine wpZ_first (by rw [List.getElem?_toArray]; exact hi) (Region.noSelect_spec hs) hQ hz.1 fuel listed a w (Region.free_spec (by rw [List.getElem?_toArray]; exact hi) hf) (fun z hzz hun => ?_) hc hr' hy hS (h (hc.next hr'))
  have := hz.2 z (by simpa using hzz)
  rw [hun, Bool.false_or, List.any_eq_true] at this
  obtain ⟨p, _, hp⟩ := this
  simp only [Bool.and_eq_true, beq_iff_eq] at hp
  exact ⟨p, hp.1, hp.2⟩

/-- What hangs on no world may be taken first over any bar. -/
theorem wpZ_first0 {i : Nat} {oi : Oper} {v : Value} (hi : ops[i]? = some oi) (hsel : ∀ (j : Nat) (o : Oper) cs b, ops[j]? = some o → o.op ≠ .select cs b)
    (hQ : ∀ c a w, Q (.panic c) (a.put oi.dst v) w → Q (.panic c) a w) (hiz : Z.contains i = false) :
    ∀ (fuel : Nat) (S : World → Prop) (listed : Array Bool) (a : Act) (w : World),
      (∀ j oj, ops[j]? = some oj → j ≠ i → listed.getD j true = false → (∀ e ∈ oj.after, Region.binds md e = true → e.on ≠ i) → oi.apart ops oj = true) →
      i ∈ Region.ready md ops listed → YieldsIf P ops (fun _ => True) oi v a → S w →
      wpZ P md ops Q Z fuel S (listed.setIfInBounds i true) (a.put oi.dst v) w → wpZ P md ops Q Z (fuel + 1) S listed a w := by
  intro fuel
  induction fuel with
  | zero =>
    intro S listed a w _ hr hy hS H
    refine ⟨fun h => (by rw [h] at hr; cases hr), fun j hj => ?_⟩
    by_cases hji : j = i
    · subst hji
      refine hy.wpOp hi trivial ?_
      rw [if_neg (by simpa using hiz)]
      exact ⟨hS, H⟩
    · have := ready_mono hj hji
      rw [H.1] at this
      cases this
  | succ fuel ih =>
    intro S listed a w hfree hr hy hS H
    refine ⟨fun h => (by rw [h] at hr; cases hr), fun j hj => ?_⟩
    by_cases hji : j = i
    · subst hji
      refine hy.wpOp hi trivial ?_
      rw [if_neg (by simpa using hiz)]
      exact ⟨hS, H⟩
    · have h1 := H.2 j (ready_mono hj hji)
      obtain ⟨hjun, oj, hoj, hall⟩ := mem_ready.1 hj
      have hiun : listed.getD i false = false := by
        have h0 := (mem_ready.1 hr).1
        rcases Nat.lt_or_ge i listed.size with h' | h'
        · simp [h'] at h0 ⊢; exact h0
        · simp [Array.getElem?_eq_none h']
      have hnot : ∀ e ∈ oj.after, Region.binds md e = true → e.on ≠ i := fun e he hb heq => by
        have h1 := hall e he hb
        rw [heq, hiun] at h1; cases h1
      have h2 := wpOp_putIf hoj (hfree j oj hoj hji hjun hnot) (fun cs b => hsel i oi cs b hi) (fun cs b => hsel j oj cs b hoj) hQ hy h1
      have hfree' : ∀ k ok, ops[k]? = some ok → k ≠ i → (listed.setIfInBounds j true).getD k true = false →
          (∀ e ∈ ok.after, Region.binds md e = true → e.on ≠ i) → oi.apart ops ok = true := fun k ok hk hki hun hno => by
        refine hfree k ok hk hki ?_ hno
        by_cases hjk : j = k
        · subst hjk; exact hjun
        · rw [getD_set_ne true hjk] at hun; exact hun
      refine wpOp_mono (fun a' w' h3 => ?_) h2
      obtain ⟨h31, h32⟩ := h3
      cases hjz : Z.contains j with
      | true =>
        simp only [hjz, if_true] at h32 ⊢
        obtain ⟨S', h4⟩ := h32
        refine ⟨fun _ => True, ih _ (listed.setIfInBounds j true) a' w' hfree' (ready_mono hr (Ne.symm hji)) h31 trivial ?_⟩
        rw [Array.setIfInBounds_comm _ _ hji]
        exact wpZ_mono (fun _ _ => trivial) _ _ _ _ h4
      | false =>
        simp only [hjz, Bool.false_eq_true, if_false] at h32 ⊢
        refine ⟨h32.1, ih S (listed.setIfInBounds j true) a' w' hfree' (ready_mono hr (Ne.symm hji)) h31 h32.1 ?_⟩
        rw [Array.setIfInBounds_comm _ _ hji]
        exact h32.2

theorem pz_pure {l : List Oper} {S : World → Prop} (k : Nat) {oi : Oper} {v : Value} {fuel : Nat} {listed : Array Bool} {a : Act} {w : World} (hi : l[k]? = some oi)
    (hs : Region.noSelect l.toArray = true) (hf : Region.free md l.toArray listed k = true) (hr : (Region.ready md l.toArray listed).contains k = true) (hz : (!Z.contains k) = true)
    (hQ : ∀ c a w, Q (.panic c) (a.put oi.dst v) w → Q (.panic c) a w) (hw : Region.wanted oi (yielded l.toArray a.tmps) = true) (hS : S w) (hy : ∀ w, (execOp a.eval oi).run P w = .ok (.value v) w)
    (h : PZ P md l.toArray Q Z fuel S (listed.setIfInBounds k true) (a.put oi.dst v) w) : PZ P md l.toArray Q Z (fuel + 1) S listed a w := by
  intro hc
  have hr' : k ∈ Region.ready md l.toArray listed := by simpa using hr
  exact wpZ_first0 (by rw [List.getElem?_toArray]; exact hi) (Region.noSelect_spec hs) hQ (by simpa using hz) fuel S listed a w (Region.free_spec (by rw [List.getElem?_toArray]; exact hi) hf) hr' (.inl ⟨hw, fun w _ => hy w⟩) hS (h (hc.next hr'))

theorem pz_drop {l : List Oper} {S : World → Prop} (k : Nat) {oi : Oper} {fuel : Nat} {listed : Array Bool} {a : Act} {w : World} (hi : l[k]? = some oi)
    (hs : Region.noSelect l.toArray = true) (hf : Region.free md l.toArray listed k = true) (hr : (Region.ready md l.toArray listed).contains k = true) (hz : (!Z.contains k) = true)
    (hQ : ∀ c a w, Q (.panic c) (a.put oi.dst undef) w → Q (.panic c) a w) (hw : Region.wanted oi (yielded l.toArray a.tmps) = false) (hS : S w)
    (h : PZ P md l.toArray Q Z fuel S (listed.setIfInBounds k true) (a.put oi.dst undef) w) : PZ P md l.toArray Q Z (fuel + 1) S listed a w := by
  intro hc
  have hr' : k ∈ Region.ready md l.toArray listed := by simpa using hr
  exact wpZ_first0 (by rw [List.getElem?_toArray]; exact hi) (Region.noSelect_spec hs) hQ (by simpa using hz) fuel S listed a w (Region.free_spec (by rw [List.getElem?_toArray]; exact hi) hf) hr' (.inr ⟨hw, rfl⟩) hS (h (hc.next hr'))

/-- One operation that may be taken first. -/
theorem pz_take {l : List Oper} {S : World → Prop} (k : Nat) {oi : Oper} {v : Value} {fuel : Nat} {listed : Array Bool} {a : Act} {w : World} (ps : List (List Nat)) (hi : l[k]? = some oi)
    (hs : Region.noSelect l.toArray = true) (hf : Region.free md l.toArray listed k = true) (hr : (Region.ready md l.toArray listed).contains k = true)
    (hz : (!Z.contains k && Z.all fun z => listed.getD z true || ps.any fun p => chainB md l.toArray z p && p.getLast? == some k) = true)
    (hQ : ∀ c a w, Q (.panic c) (a.put oi.dst v) w → Q (.panic c) a w) (hw : Region.wanted oi (yielded l.toArray a.tmps) = true) (hS : S w) (hy : ∀ w, S w → (execOp a.eval oi).run P w = .ok (.value v) w)
    (h : PZ P md l.toArray Q Z fuel S (listed.setIfInBounds k true) (a.put oi.dst v) w) : PZ P md l.toArray Q Z (fuel + 1) S listed a w :=
  wpZ_take k ps hi hs hf hr hz hQ (.inl ⟨hw, hy⟩) hS h

/-- One whose guard says no. -/
theorem pz_skip {l : List Oper} {S : World → Prop} (k : Nat) {oi : Oper} {fuel : Nat} {listed : Array Bool} {a : Act} {w : World} (ps : List (List Nat)) (hi : l[k]? = some oi)
    (hs : Region.noSelect l.toArray = true) (hf : Region.free md l.toArray listed k = true) (hr : (Region.ready md l.toArray listed).contains k = true)
    (hz : (!Z.contains k && Z.all fun z => listed.getD z true || ps.any fun p => chainB md l.toArray z p && p.getLast? == some k) = true)
    (hQ : ∀ c a w, Q (.panic c) (a.put oi.dst undef) w → Q (.panic c) a w) (hw : Region.wanted oi (yielded l.toArray a.tmps) = false) (hS : S w)
    (h : PZ P md l.toArray Q Z fuel S (listed.setIfInBounds k true) (a.put oi.dst undef) w) : PZ P md l.toArray Q Z (fuel + 1) S listed a w :=
  wpZ_take k ps hi hs hf hr hz hQ (.inr ⟨hw, rfl⟩) hS h

/-- One operation that is the only one that may come up, and no bar: walked; a stronger S may be taken behind it. -/
theorem pz_step {l : List Oper} {S : World → Prop} (k : Nat) {fuel : Nat} {o : Oper} {listed : Array Bool} {a : Act} {w : World} (ho : l[k]? = some o) (hr : (Region.ready md l.toArray listed == [k] && !Z.contains k) = true)
    (h : ∀ K : Act → World → Prop, (∀ (S2 : World → Prop) a' w', (∀ w, S2 w → S w) → S2 w' → PZ P md l.toArray Q Z fuel S2 (listed.setIfInBounds k true) a' w' → K a' w') → wpList P l.toArray (Exit.then K Q) [o] a w) :
    PZ P md l.toArray Q Z (fuel + 1) S listed a w := by
  intro hc
  simp only [Bool.and_eq_true, beq_iff_eq, Bool.not_eq_true'] at hr
  refine ⟨fun h0 => absurd (hr.1 ▸ h0) (by simp), fun i hi => ?_⟩
  have hk : k ∈ Region.ready md l.toArray listed := by rw [hr.1]; simp
  obtain rfl : i = k := by rw [hr.1] at hi; simpa using hi
  exact wpOp_of_list (by rw [List.getElem?_toArray]; exact ho) (h _ fun S2 a' w' h1 h2 h3 => by
    rw [if_neg (by rw [hr.2]; simp)]
    exact ⟨h1 w' h2, wpZ_mono h1 _ _ _ _ (h3 (hc.next hk))⟩)

/-- A bar: walked; whatever S behind it. -/
theorem pz_bar {l : List Oper} {S : World → Prop} (k : Nat) {fuel : Nat} {o : Oper} {listed : Array Bool} {a : Act} {w : World} (ho : l[k]? = some o) (hr : (Region.ready md l.toArray listed == [k] && Z.contains k) = true)
    (h : ∀ K : Act → World → Prop, (∀ (S2 : World → Prop) a' w', PZ P md l.toArray Q Z fuel S2 (listed.setIfInBounds k true) a' w' → K a' w') → wpList P l.toArray (Exit.then K Q) [o] a w) :
    PZ P md l.toArray Q Z (fuel + 1) S listed a w := by
  intro hc
  simp only [Bool.and_eq_true, beq_iff_eq] at hr
  refine ⟨fun h0 => absurd (hr.1 ▸ h0) (by simp), fun i hi => ?_⟩
  have hk : k ∈ Region.ready md l.toArray listed := by rw [hr.1]; simp
  obtain rfl : i = k := by rw [hr.1] at hi; simpa using hi
  exact wpOp_of_list (by rw [List.getElem?_toArray]; exact ho) (h _ fun S2 a' w' h3 => by
    rw [if_pos hr.2]
    exact ⟨S2, h3 (hc.next hk)⟩)

/-- The beginning: S, and the bars. -/
theorem pz_start {l : List Oper} {id : Nat} {a : Act} {w : World} (Z : List Nat) (S : World → Prop) (hm : P.follows .mixedOrders = true)
    (h : PZ P .any l.toArray (NoPanic Q) Z l.toArray.size S (Array.replicate l.toArray.size false) a w.drew) : (Code.region id l.toArray true).wp P Q a w :=
  wp_region_noPanic (wp_region_any hm (wpAny_of_Z _ _ _ _ _ (h (fun j o _ hj => by
    simp only [Array.getD_eq_getD_getElem?, Array.getElem?_replicate] at hj
    split at hj <;> simp at hj))))

/-- The end. -/
theorem pz_done {S : World → Prop} {listed : Array Bool} {a : Act} {w : World} (hr : Region.ready md ops listed = []) (h : Q .normal a w) : ∀ fuel, PZ P md ops (NoPanic Q) Z fuel S listed a w
  | 0 => fun _ => ⟨hr, NoPanic.normal h⟩
  | _ + 1 => fun _ => ⟨fun _ => NoPanic.normal h, by rw [hr]; simp⟩

end Go.Proofs.Ytfalaopljodmnaa
