/- Words for memory: what a slice reads as, which slices own their row, which blocks a call may have changed; the law of append. No program in sight. -/
import Derived.WalkKit
import Derived.WalkSpells
import Derived.WalkLawsBesides
import Derived.BigQuiet
import Derived.Deep.AppendSrc
namespace Go.Proofs.Ytfalaopljodmnaa
open Go.RowKit

/-- A fact kept from the walk. -/
theorem hid {p : Prop} (h : p) : Hid p := h

/-- From w to w' only blocks of S, and new ones, have changed. -/
structure Fr (S : Nat → Prop) (w w' : World) : Prop where
  os : w'.os = w.os
  tape : w'.tape = w.tape
  output : w'.output = w.output
  size : w.heap.size ≤ w'.heap.size
  block : ∀ k, k < w.heap.size → ¬ S k → w'.heap[k]? = w.heap[k]?

theorem Fr.refl (S : Nat → Prop) (w : World) : Fr S w w := ⟨rfl, rfl, rfl, Nat.le_refl _, fun _ _ _ => rfl⟩

theorem Fr.trans {S S' : Nat → Prop} {a b c : World} (h : Fr S a b) (k : Fr S' b c) (hs : ∀ i, i < a.heap.size → S' i → S i) : Fr S a c :=
  ⟨k.os.trans h.os, k.tape.trans h.tape, k.output.trans h.output, Nat.le_trans h.size k.size,
    fun i hi hn => (k.block i (Nat.lt_of_lt_of_le hi h.size) (fun e => hn (hs i hi e))).trans (h.block i hi hn)⟩

theorem Fr.mono {S S' : Nat → Prop} {a b : World} (h : Fr S a b) (hs : ∀ i, i < a.heap.size → S i → S' i) : Fr S' a b :=
  ⟨h.os, h.tape, h.output, h.size, fun i hi hn => h.block i hi (fun e => hn (hs i hi e))⟩

theorem Fr.drew {S : Nat → Prop} {a w : World} (h : Fr S a w) : Fr S a w.drew := ⟨h.os, h.tape, h.output, h.size, h.block⟩

theorem Fr.drewN {S : Nat → Prop} {a w : World} (h : Fr S a w) (n : Nat) : Fr S a (w.drewN n) := ⟨h.os, h.tape, h.output, h.size, h.block⟩

theorem Fr.alloc {S : Nat → Prop} {a w : World} (h : Fr S a w) (o : Obj) : Fr S a (w.alloc o) :=
  h.trans (S' := fun _ => False) ⟨rfl, rfl, rfl, by simp, fun k hk _ => Below.heap_alloc _ _ _ hk⟩ (fun _ _ e => e.elim)

theorem Fr.setCell {S : Nat → Prop} {a w : World} (h : Fr S a w) {p : Addr} (hp : p.block < a.heap.size → S p.block) (u : Value) : Fr S a (w.setCell p u) :=
  h.trans (S' := fun i => i = p.block) ⟨rfl, rfl, rfl, by simp [World.setCell], fun k _ hk => Below.heap_setCell _ _ _ _ hk⟩ (fun i hi e => by subst e; exact hp hi)

theorem Fr.grown {S : Nat → Prop} {a w w' : World} {row : Option Nat} (h : Fr S a w) (hg : w.grownBy w' row) (hr : ∀ k, row = some k → k < a.heap.size → S k) : Fr S a w' :=
  h.trans (S' := fun i => row = some i) ⟨hg.os, hg.tape, hg.output, hg.size, fun k hk hn => hg.block k hk (fun e => hn e.symm)⟩ (fun i hi e => hr i e hi)

theorem Fr.of_grown {w w' : World} {row : Option Nat} (hg : w.grownBy w' row) : Fr (fun k => row = some k) w w' :=
  ⟨hg.os, hg.tape, hg.output, hg.size, fun k hk hn => hg.block k hk (fun e => hn e.symm)⟩

theorem Fr.cell {S : Nat → Prop} {w w' : World} (h : Fr S w w') {p : Addr} (hp : p.block < w.heap.size) (hn : ¬ S p.block) : w'.cell? p = w.cell? p :=
  World.cell?_of_block (w := w) (h.block p.block hp hn)

theorem Fr.frozen {S : Nat → Prop} {w w' : World} (h : Fr S w w') {p : Addr} (hp : p.block < w.heap.size) (hn : ¬ S p.block) : w'.frozen? p = w.frozen? p :=
  World.frozen?_of_block (w := w) (h.block p.block hp hn)

theorem Fr.below {S : Nat → Prop} {w w' : World} (h : Fr S w w') {B : Nat} (hB : B ≤ w.heap.size) (hs : ∀ k, k < B → ¬ S k) : Below B w w' :=
  ⟨h.os, h.tape, h.output, h.size, fun k hk => h.block k (Nat.lt_of_lt_of_le hk hB) (hs k hk)⟩

theorem Fr.of_below {w w' : World} (h : Below w.heap.size w w') (S : Nat → Prop) : Fr S w w' :=
  ⟨h.os, h.tape, h.output, h.size, fun k hk _ => h.block k hk⟩

/-- No old block has changed. -/
abbrev F0 : Nat → Prop := fun _ => False

/-- A block of the heap, whole. -/
theorem cell_at {w : World} {b : Nat} {cs : Array Value} {t : TypeId} {f : Nat × Nat} (h : w.heap[b]? = some (.cells cs t f)) (i : Nat) : w.cell? ⟨b, i, none⟩ = cs[i]? := by
  simp [World.cell?, h]

theorem frozen_at {w : World} {b : Nat} {cs : Array Value} {t : TypeId} (h : w.heap[b]? = some (.cells cs t (0, 0))) (i : Nat) : w.frozen? ⟨b, i, none⟩ = false := by
  simp [World.frozen?, h]

theorem frozen_at' {w : World} {b : Nat} {cs : Array Value} {t : TypeId} {f : Nat × Nat} (h : w.heap[b]? = some (.cells cs t f)) (hf : f = (0, 0) ∨ cs.size ≤ f.1) (i : Nat) (hi : i < cs.size) : w.frozen? ⟨b, i, none⟩ = false := by
  obtain ⟨lo, hi'⟩ := f
  rcases hf with hf | hf
  · cases hf; exact frozen_at h i
  · simp only [World.frozen?, h]
    have : ¬ lo ≤ i := by simp at hf; omega
    simp [this]

theorem lt_of_heap {w : World} {b : Nat} {o : Obj} (h : w.heap[b]? = some o) : b < w.heap.size := (Array.getElem?_eq_some_iff.1 h).1

theorem heap_setCell {w : World} {b : Nat} {cs : Array Value} {t : TypeId} {f : Nat × Nat} (h : w.heap[b]? = some (.cells cs t f)) (i : Nat) (u : Value) :
    (w.setCell ⟨b, i, none⟩ u).heap[b]? = some (.cells (cs.setIfInBounds i u) t f) := by
  simp [World.setCell, Array.getElem?_modify, h]

theorem Fr.heap {S : Nat → Prop} {w w' : World} (h : Fr S w w') {b : Nat} {o : Obj} (hb : w.heap[b]? = some o) (hn : ¬ S b) : w'.heap[b]? = some o :=
  (h.block b (lt_of_heap hb) hn).trans hb

theorem heap_alloc_last (w : World) (o : Obj) : (w.alloc o).heap[w.heap.size]? = some o := heap_alloc_new w o

theorem heap_setCells {t : TypeId} {f : Nat × Nat} (g : Nat) : ∀ (vs : List Value) (o : Nat) (w : World) (cur : Array Value), w.heap[g]? = some (.cells cur t f) → o + vs.length ≤ cur.size →
    ∃ cur' : Array Value, (w.setCells g o vs).heap[g]? = some (.cells cur' t f) ∧ cur'.size = cur.size ∧ (∀ j, j < vs.length → cur'[o + j]? = vs[j]?) ∧ (∀ j, j < o ∨ o + vs.length ≤ j → cur'[j]? = cur[j]?)
  | [], _, _, cur, h, _ => ⟨cur, h, rfl, fun j hj => absurd hj (by simp), fun _ _ => rfl⟩
  | v :: r, o, w, cur, h, hl => by
    simp only [List.length_cons] at hl
    obtain ⟨cur', h1, h2, h3, h4⟩ := heap_setCells g r (o + 1) (w.setCell ⟨g, o, none⟩ v) (cur.setIfInBounds o v) (heap_setCell h o v) (by simp; omega)
    refine ⟨cur', h1, by simpa using h2, fun j hj => ?_, fun j hj => ?_⟩
    · match j with
      | 0 => rw [Nat.add_zero, h4 o (.inl (by omega)), Array.getElem?_setIfInBounds_self_of_lt (by omega)]; rfl
      | j + 1 => have := h3 j (by simpa using hj); rw [show o + (j + 1) = o + 1 + j by omega, this]; simp
    · simp only [List.length_cons] at hj
      rw [h4 j (by omega), Array.getElem?_setIfInBounds_ne (by omega)]

theorem Fr.setCells (g o : Nat) (vs : List Value) (w : World) : Fr (fun k => k = g) w (w.setCells g o vs) := by
  induction vs generalizing o w with
  | nil => exact Fr.refl _ _
  | cons v r ih => exact ((Fr.refl (fun k => k = g) w).setCell (p := ⟨g, o, none⟩) (fun _ => rfl) v).trans (ih (o + 1) _) (fun _ _ e => e)

theorem addr_add (g o j : Nat) : (⟨g, o, none⟩ : Addr).add j = ⟨g, o + j, none⟩ := by
  unfold Addr.add; split <;> simp_all

/-- The block that a slice is read from (an empty one is read from none). -/
def rblk : Value → Option Nat
  | .slice (some a) (_ + 1) _ => some a.block
  | _ => none

theorem rblk_own {v : Value} {k : Nat} (h : rblk v = some k) : v.ownBlock = some k := by
  unfold rblk at h
  split at h
  · simpa [Value.ownBlock] using h
  · cases h

/-- 'v' is a slice of n elements of 'size' cells each that reads as the cells xs. -/
def Rg (w : World) (size : Nat) (v : Value) (n : Nat) (xs : List Value) : Prop :=
  xs.length = n * size ∧ ∃ ao c, v = .slice ao n c ∧ n ≤ c ∧ c ≤ maxLen ∧ (ao = none → c = 0) ∧
    (0 < n → ∃ b o, ao = some ⟨b, o, none⟩ ∧ b < w.heap.size ∧ ∀ j, (h : j < xs.length) → w.cell? ⟨b, o + j, none⟩ = some xs[j])

/-- .. and has a row of its own: none of its cells up to the capacity is frozen. -/
def Own (w : World) (e size : Nat) (v : Value) (n : Nat) (xs : List Value) : Prop :=
  xs.length = n * size ∧ ((v = .slice none 0 0 ∧ n = 0) ∨
    ∃ g o c cur f, v = .slice (some ⟨g, o, none⟩) n c ∧ n ≤ c ∧ c ≤ maxLen ∧ w.heap[g]? = some (.cells cur e f) ∧ (f = (0, 0) ∨ cur.size ≤ f.1) ∧ o + c * size ≤ cur.size ∧ ∀ j, (h : j < xs.length) → cur[o + j]? = some xs[j])

theorem Own.rg {w : World} {e size : Nat} {v : Value} {n : Nat} {xs : List Value} (h : Own w e size v n xs) : Rg w size v n xs := by
  refine ⟨h.1, ?_⟩
  rcases h.2 with ⟨rfl, rfl⟩ | ⟨g, o, c, cur, f, rfl, h1, h2, h3, _, h4, h5⟩
  · exact ⟨none, 0, rfl, Nat.le_refl _, Nat.zero_le _, fun _ => rfl, fun h => absurd h (by omega)⟩
  · exact ⟨_, c, rfl, h1, h2, (fun h => by cases h), fun _ => ⟨g, o, rfl, lt_of_heap h3, fun j hj => by rw [cell_at h3]; exact h5 j hj⟩⟩

theorem Own.nil (w : World) (e size : Nat) : Own w e size (.slice none 0 0) 0 [] := ⟨by simp, .inl ⟨rfl, rfl⟩⟩

theorem Rg.nil (w : World) (size : Nat) : Rg w size (.slice none 0 0) 0 [] := ⟨by simp, none, 0, rfl, Nat.le_refl _, Nat.zero_le _, fun _ => rfl, fun h => absurd h (by omega)⟩

theorem Rg.form {w : World} {size : Nat} {v : Value} {n : Nat} {xs : List Value} (h : Rg w size v n xs) : ∃ ao c, v = .slice ao n c ∧ n ≤ c := by
  obtain ⟨_, ao, c, h1, h2, _⟩ := h; exact ⟨ao, c, h1, h2⟩

theorem Rg.keep {S : Nat → Prop} {w w' : World} {size : Nat} {v : Value} {n : Nat} {xs : List Value} (h : Rg w size v n xs) (f : Fr S w w') (hn : ∀ k, rblk v = some k → ¬ S k) : Rg w' size v n xs := by
  obtain ⟨h0, ao, c, rfl, h1, h2, h3, h4⟩ := h
  refine ⟨h0, ao, c, rfl, h1, h2, h3, fun hp => ?_⟩
  obtain ⟨b, o, rfl, h5, h6⟩ := h4 hp
  obtain ⟨m, rfl⟩ : ∃ m, n = m + 1 := ⟨n - 1, by omega⟩
  refine ⟨b, o, rfl, Nat.lt_of_lt_of_le h5 f.size, fun i hi => ?_⟩
  rw [f.cell (p := ⟨b, o + i, none⟩) h5 (hn b rfl)]
  exact h6 i hi

theorem Own.keep {S : Nat → Prop} {w w' : World} {e size : Nat} {v : Value} {n : Nat} {xs : List Value} (h : Own w e size v n xs) (f : Fr S w w') (hn : ∀ k, v.ownBlock = some k → ¬ S k) : Own w' e size v n xs := by
  refine ⟨h.1, ?_⟩
  rcases h.2 with h2 | ⟨b, o, c, cur, fz, rfl, h1, h2, h3, h4⟩
  · exact .inl h2
  · exact .inr ⟨b, o, c, cur, fz, rfl, h1, h2, f.heap h3 (hn b rfl), h4⟩

theorem Rg.lt {w : World} {size : Nat} {v : Value} {n : Nat} {xs : List Value} (h : Rg w size v n xs) : ∀ k, rblk v = some k → k < w.heap.size := by
  obtain ⟨_, ao, c, rfl, _, _, _, h4⟩ := h
  intro k hk
  match n, h4 with
  | 0, _ => simp [rblk] at hk
  | m + 1, h4 =>
    obtain ⟨b, o, rfl, h5, _⟩ := h4 (by omega)
    simp [rblk] at hk
    omega

theorem Own.lt {w : World} {e size : Nat} {v : Value} {n : Nat} {xs : List Value} (h : Own w e size v n xs) : ∀ k, v.ownBlock = some k → k < w.heap.size := by
  rcases h.2 with ⟨rfl, _⟩ | ⟨b, o, c, cur, f, rfl, _, _, h3, _⟩
  · intro k hk; simp [Value.ownBlock] at hk
  · intro k hk; simp [Value.ownBlock] at hk; have := lt_of_heap h3; omega

theorem Rg.src {P : Program} {w : World} {size : Nat} {v : Value} {n : Nat} {xs : List Value} {tx e' : TypeId} (hk : P.underlying tx = some (.slice e')) (h : Rg w size v n xs) (h1 : ∀ u ∈ xs, u.oneCell' = true) : Src P size tx v n xs w := by
  obtain ⟨hl, ao, c, rfl, _, _, h3, h4⟩ := h
  by_cases hp : 0 < n
  · obtain ⟨b, o, rfl, _, h6⟩ := h4 hp
    refine Src.ofSlice w hk _ n c xs hl (fun j u hu => ?_) h1
    obtain ⟨hj, e⟩ := List.getElem?_eq_some_iff.1 hu
    rw [addr_add, h6 j hj, e]
  · obtain rfl : n = 0 := by omega
    obtain rfl : xs = [] := List.eq_nil_of_length_eq_zero (by simpa using hl)
    cases ao with
    | none => exact Src.ofNil w hk c
    | some a => exact Src.ofSlice w hk a 0 c [] (by simp) (fun j u hu => by simp at hu) (by simp)

/-- 'append(s, x...)'. -/
theorem run_appOwn {P : Program} (w : World) (t tx ty e : TypeId) (i : TypeInfo) (z : Value) (size : Nat) (ht : P.underlying t = some (.slice e)) (hi : P.info? e = some i) (hz : i.zero = some z) (hsz : i.size = size)
    (hzs : z.cells.size = size) (hpos : 0 < size) (v x : Value) (n m : Nat) (xs news : List Value) (hown : Own w e size v n xs) (hs : Src P size tx x m news w) (hm : n + m ≤ 1125899906842624) (hby : (n + m) * i.bytes ≤ 140737488355328) :
    ∃ v' w', (Builtin.append_ #[t, tx] ty #[v, x]).run P w = .ok v' w' ∧ Own w' e size v' (n + m) (xs ++ news) ∧ w.grownBy w' v.ownBlock ∧ (∀ k, v'.ownBlock = some k → v.ownBlock = some k ∨ w.heap.size ≤ k) ∧
      (v' = .slice none 0 0 ↔ v = .slice none 0 0 ∧ m = 0) := by
  subst hsz
  obtain ⟨hl, hown⟩ := hown
  have hll : (xs ++ news).length = (n + m) * i.size := by rw [List.length_append, hl, hs.newsLen, Nat.add_mul]
  have key : ∀ (ao : Option Addr) (cap : Nat), n ≤ cap → cap < n + m → (Builtin.firstCells i.size n (.slice ao n cap)).run P w.drew = .ok xs.toArray w.drew →
      ∃ v' w', (Builtin.append_ #[t, tx] ty #[.slice ao n cap, x]).run P w = .ok v' w' ∧ Own w' e i.size v' (n + m) (xs ++ news) ∧ w.grownBy w' (Value.ownBlock (.slice ao n cap)) ∧ (∀ k, v'.ownBlock = some k → w.heap.size ≤ k) ∧ v' ≠ .slice none 0 0 := by
    intro ao cap hnc hlt hf
    have hr := run_append_grow_src (P := P) w t tx ty e i z ht hi hz ao n cap xs hf x m news hs hlt (by omega) (growslice_fits hlt hby)
    refine ⟨_, _, hr, ⟨hll, .inr ⟨w.heap.size, 0, _, _, _, rfl, grownCap_ge w (n + m) cap e, grownCap_le_maxLen w (n + m) cap e (by unfold maxLen; omega), heap_alloc_new w.drew _, .inl rfl, ?_, ?_⟩⟩, ⟨rfl, rfl, rfl, by simp, fun k hk _ => heap_alloc_old w _ hk⟩, by simp [Value.ownBlock], by simp⟩
    · have hge := grownCap_ge w (n + m) cap e
      have hll' := hll
      simp only [List.length_append] at hll'
      simp only [Array.size_append, List.size_toArray, size_zeroCells, hzs, Nat.zero_add, List.length_append, hll', ← Nat.add_mul]
      exact Nat.mul_le_mul_right _ (by omega)
    · intro j hj
      rw [Nat.zero_add, Array.getElem?_append_left (by simpa using hj)]
      simp
  rcases hown with ⟨rfl, rfl⟩ | ⟨g, o, cap, cur, f, rfl, hnc, hcm, hg, hfz, hfit, hc⟩
  · obtain rfl : xs = [] := List.eq_nil_of_length_eq_zero (by simpa using hl)
    by_cases hm0 : m = 0
    · subst hm0
      obtain rfl : news = [] := List.eq_nil_of_length_eq_zero (by simpa using hs.newsLen)
      refine ⟨.slice none 0 0, w, ?_, ⟨by simp, .inl ⟨rfl, rfl⟩⟩, ⟨rfl, rfl, rfl, Nat.le_refl _, fun _ _ _ => rfl⟩, by simp [Value.ownBlock], by simp⟩
      rcases hs.kind with ⟨e', hk⟩ | hk <;> simp [Builtin.append_, run_underlying ht, run_underlying hk, sizeOf, typeInfo, hi, hs.len, hs.cells]
    · obtain ⟨v', w', h1, h2, h3, h4, h5⟩ := key none 0 (Nat.le_refl _) (by omega) (run_firstCells_none w.drew i.size 0 0 0)
      exact ⟨v', w', h1, h2, h3, fun k hk => .inr (h4 k hk), by simp [h5, hm0]⟩
  · by_cases hroom : n + m ≤ cap
    · have hmul : (n + m) * i.size ≤ cap * i.size := Nat.mul_le_mul_right _ hroom
      have hfit2 : o + n * i.size + news.length ≤ cur.size := by rw [hs.newsLen]; rw [Nat.add_mul] at hmul; omega
      have hr := run_append_room_src (P := P) w t tx ty e i ht hi g o n cap x m news hs hroom
        (fun j hj => by rw [cell_at hg, Array.getElem?_eq_getElem (by omega)]; rfl) (fun j hj => frozen_at' hg hfz _ (by omega))
      obtain ⟨cur', h1, h2, h3, h4⟩ := heap_setCells g news (o + n * i.size) w cur hg hfit2
      have hfr := Fr.setCells g (o + n * i.size) news w
      refine ⟨_, _, hr, ⟨hll, .inr ⟨g, o, cap, cur', f, rfl, hroom, hcm, h1, by rw [h2]; exact hfz, by omega, fun j hj => ?_⟩⟩, ⟨hfr.os, hfr.tape, hfr.output, hfr.size, fun k hk hne => hfr.block k hk (fun e => hne (by simp [Value.ownBlock, e]))⟩, fun k hk => .inl hk, by simp⟩
      by_cases hjx : j < xs.length
      · rw [h4 (o + j) (.inl (by omega)), hc j hjx, List.getElem_append_left hjx]
      · have hj' : j - xs.length < news.length := by simp at hj; omega
        have := h3 (j - xs.length) hj'
        rw [show o + n * i.size + (j - xs.length) = o + j by omega] at this
        rw [this, List.getElem_append_right (by omega), List.getElem?_eq_getElem hj']
    · obtain ⟨v', w', h1, h2, h3, h4, h5⟩ := key (some ⟨g, o, none⟩) cap hnc (by omega)
        (run_firstCells_some w.drew i.size n ⟨g, o, none⟩ n cap xs hl (fun j u hu => by
          obtain ⟨hj, e⟩ := List.getElem?_eq_some_iff.1 hu
          rw [addr_add, ← e]
          show w.cell? _ = _
          rw [cell_at hg]; exact hc j hj))
      exact ⟨v', w', h1, h2, h3, fun k hk => .inr (h4 k hk), by simp [h5]⟩

/-- An operation whose guard lets it run (or that has none). -/
theorem wpList_want {P : Program} {w : World} {ops : Array Oper} {rest : List Oper} {o : Oper} {a : Act} {Q : Exit → Act → World → Prop} (hgd : Region.wanted o (yielded ops a.tmps) = true)
    (h : ∀ K : Act → World → Prop, (∀ a w, wpList P ops Q rest a w → K a w) → o.wp P a w K Q) : wpList P ops Q (o :: rest) a w :=
  wpList_step fun K hK => by rw [if_pos hgd]; exact h K hK

theorem wpList_appOwn {P : Program} {w : World} {ops : Array Oper} {rest : List Oper} {o : Oper} {a : Act} {Q : Exit → Act → World → Prop} (hgd : Region.wanted o (yielded ops a.tmps) = true) (s x : Operand) (t tx : TypeId)
    (ho : o.op = .call { callee := .builtin .append, args := #[s, x], argTypes := #[t, tx] })
    (e : TypeId) (i : TypeInfo) (z : Value) (size : Nat) (ht : P.underlying t = some (.slice e)) (hi : P.info? e = some i) (hz : i.zero = some z) (hsz : i.size = size) (hzs : z.cells.size = size) (hpos : 0 < size)
    (v xv : Value) (n m : Nat) (xs news : List Value) (hs : a.eval s = v) (hx : a.eval x = xv) (hown : Own w e size v n xs) (hsrc : Src P size tx xv m news w) (hm : n + m ≤ 1125899906842624) (hby : (n + m) * i.bytes ≤ 140737488355328)
    (h : ∀ v' w', Own w' e size v' (n + m) (xs ++ news) → w.grownBy w' v.ownBlock → (∀ k, v'.ownBlock = some k → v.ownBlock = some k ∨ w.heap.size ≤ k) → (v' = .slice none 0 0 ↔ v = .slice none 0 0 ∧ m = 0) → wpList P ops Q rest (a.put o.dst v') w') :
    wpList P ops Q (o :: rest) a w := by
  refine wpList_want hgd fun K hK => ?_
  obtain ⟨v', w', hr, h2, h3, h4, h5⟩ := run_appOwn (P := P) w t tx o.type e i z size ht hi hz hsz hzs hpos v xv n m xs news hown hsrc hm hby
  unfold Oper.wp execOp
  simp only [ho, resolve, invoke, builtin, Sem.run_bind, Sem.run_pure, Result.andThen_ok, List.map_toArray, List.map_cons, List.map_nil, hs, hx, hr]
  exact hK _ _ (h v' w' h2 h3 h4 h5)

/-- A byte as a cell. -/
def b8 (c : UInt8) : Value := .int .u8 (c.toNat : Int)

theorem b8_one (l : List UInt8) : ∀ u ∈ l.map b8, u.oneCell' = true := by
  intro u hu
  obtain ⟨c, _, rfl⟩ := List.mem_map.1 hu
  rfl

theorem b8_ofNat (m : Nat) : b8 (UInt8.ofNat m) = .int .u8 ((m : Int) % 256) := by
  simp [b8]

/-- 'v' is a []byte that reads as 'l'. -/
def Rd (w : World) (v : Value) (l : List UInt8) : Prop := Rg w 1 v l.length (l.map b8)

/-- .. with a row of its own. -/
def Ob (w : World) (e : Nat) (v : Value) (l : List UInt8) : Prop := Own w e 1 v l.length (l.map b8)

theorem Ob.rd {w : World} {e : Nat} {v : Value} {l : List UInt8} (h : Ob w e v l) : Rd w v l := Own.rg h
theorem Ob.nil (w : World) (e : Nat) : Ob w e (.slice none 0 0) [] := Own.nil w e 1
theorem Rd.nil (w : World) : Rd w (.slice none 0 0) [] := Rg.nil w 1
theorem Rd.keep {S : Nat → Prop} {w w' : World} {v : Value} {l : List UInt8} (h : Rd w v l) (f : Fr S w w') (hn : ∀ k, v.ownBlock = some k → ¬ S k) : Rd w' v l := Rg.keep h f (fun k hk => hn k (rblk_own hk))
theorem Rd.keep' {S : Nat → Prop} {w w' : World} {v : Value} {l : List UInt8} (h : Rd w v l) (f : Fr S w w') (hn : ∀ k, rblk v = some k → ¬ S k) : Rd w' v l := Rg.keep h f hn
theorem Ob.keep {S : Nat → Prop} {w w' : World} {e : Nat} {v : Value} {l : List UInt8} (h : Ob w e v l) (f : Fr S w w') (hn : ∀ k, v.ownBlock = some k → ¬ S k) : Ob w' e v l := Own.keep h f hn
theorem Rd.keep0 {w w' : World} {v : Value} {l : List UInt8} (h : Rd w v l) (f : Fr F0 w w') : Rd w' v l := Rg.keep h f (fun _ _ e => e)
theorem Ob.keep0 {w w' : World} {e : Nat} {v : Value} {l : List UInt8} (h : Ob w e v l) (f : Fr F0 w w') : Ob w' e v l := Own.keep h f (fun _ _ e => e)
theorem Rd.lt {w : World} {v : Value} {l : List UInt8} (h : Rd w v l) : ∀ k, rblk v = some k → k < w.heap.size := Rg.lt h
theorem Ob.lt {w : World} {e : Nat} {v : Value} {l : List UInt8} (h : Ob w e v l) : ∀ k, v.ownBlock = some k → k < w.heap.size := Own.lt h
theorem Rd.form {w : World} {v : Value} {l : List UInt8} (h : Rd w v l) : ∃ ao c, v = .slice ao l.length c ∧ l.length ≤ c := Rg.form h
theorem Rd.open {w : World} {v : Value} {l : List UInt8} (h : Rd w v l) (hp : 0 < l.length) : ∃ b o c, v = .slice (some ⟨b, o, none⟩) l.length c ∧ l.length ≤ c ∧ ∀ (i : Nat) (u : UInt8), l[i]? = some u → w.cell? ⟨b, o + i, none⟩ = some (.int .u8 (u.toNat : Int)) := by
  obtain ⟨_, ao, c, rfl, h1, _, _, h4⟩ := h
  obtain ⟨b, o, rfl, _, h6⟩ := h4 hp
  refine ⟨b, o, c, rfl, h1, fun i u hu => ?_⟩
  obtain ⟨hi, e⟩ := List.getElem?_eq_some_iff.1 hu
  rw [h6 i (by simpa using hi)]
  simp [b8, e]

theorem Ob.form {w : World} {e : Nat} {v : Value} {l : List UInt8} (h : Ob w e v l) : ∃ ao n c, v = .slice ao n c := by
  obtain ⟨ao, c, h, _⟩ := Rg.form (Own.rg h); exact ⟨_, _, _, h⟩

/-- One byte in a new block. -/
theorem Rd.one (w : World) (u : UInt8) (e : Nat) : Rd (w.alloc (.cells #[b8 u] e)) (.slice (some ⟨w.heap.size, 0, none⟩) 1 1) [u] := by
  refine ⟨rfl, _, 1, rfl, Nat.le_refl _, by simp [maxLen], (fun h => by cases h), fun _ => ⟨w.heap.size, 0, rfl, by simp, fun j hj => ?_⟩⟩
  obtain rfl : j = 0 := by simpa using hj
  simp

/-- 'append(s, x...)' of bytes. -/
theorem wpList_appB {P : Program} {w : World} {ops : Array Oper} {rest : List Oper} {o : Oper} {a : Act} {Q : Exit → Act → World → Prop} (hgd : Region.wanted o (yielded ops a.tmps) = true) (s x : Operand) (t : TypeId)
    (ho : o.op = .call { callee := .builtin .append, args := #[s, x], argTypes := #[t, t] })
    (e : Nat) (ht : P.underlying t = some (.slice e)) (hi : (P.info? e).map (fun i => (i.zero, i.size, i.bytes)) = some (some (.int .u8 0), 1, 1))
    (v xv : Value) (l m : List UInt8) (hs : a.eval s = v) (hx : a.eval x = xv) (hown : Ob w e v l) (hr : Rd w xv m) (hlen : l.length + m.length ≤ 140737488355328)
    (h : ∀ v' w', Ob w' e v' (l ++ m) → w.grownBy w' v.ownBlock → (∀ k, v'.ownBlock = some k → v.ownBlock = some k ∨ w.heap.size ≤ k) → (v' = .slice none 0 0 ↔ v = .slice none 0 0 ∧ m = []) → wpList P ops Q rest (a.put o.dst v') w') : wpList P ops Q (o :: rest) a w := by
  obtain ⟨i0, hi, hz0, hz1, hz2⟩ := info_parts hi
  refine wpList_appOwn hgd s x t t ho e i0 _ 1 ht hi hz0 hz1 rfl (by omega) v xv l.length m.length (l.map b8) (m.map b8) hs hx hown (Rg.src ht hr (b8_one m)) (by omega) (by rw [hz2]; omega) fun v' w' h1 h2 h3 h4 => ?_
  refine h v' w' ?_ h2 h3 ?_
  · unfold Ob; rw [List.map_append, List.length_append]; exact h1
  · rw [h4]; simp

/-- A slice lies in blocks that were not there. -/
def New (w : World) (v : Value) : Prop := ∀ k, v.ownBlock = some k → w.heap.size ≤ k

theorem New.nil (w : World) (n c : Nat) : New w (.slice none n c) := by intro k hk; simp [Value.ownBlock] at hk

/-- 'string(b)'. -/
theorem run_strB {P : Program} (w : World) (src dst e : TypeId) (hs : P.underlying src = some (.slice e)) (he : P.underlying e = some (.int .u8)) (hd : P.underlying dst = some .string) (v : Value) (l : List UInt8) (hr : Rd w v l) :
    (convert src dst v).run P w = .ok (.string ⟨l.toArray⟩) w := by
  obtain ⟨_, ao, c, rfl, _, _, _, h4⟩ := hr
  by_cases hp : 0 < l.length
  · obtain ⟨b, o, rfl, _, h6⟩ := h4 hp
    refine run_convert_bytes_back w src dst e ⟨b, o, none⟩ c l hs he hd (fun j hj => ?_)
    rw [addr_add, h6 j (by simpa using hj)]
    simp [b8]
  · obtain rfl : l = [] := List.eq_nil_of_length_eq_zero (by omega)
    cases ao with
    | none => exact run_convert_bytes_nil w src e hs he 0 c dst hd
    | some a => exact run_convert_bytes_back w src dst e a c [] hs he hd (fun j hj => by simp at hj)

theorem wpList_strB {P : Program} {w : World} {ops : Array Oper} {rest : List Oper} {o : Oper} {a : Act} {Q : Exit → Act → World → Prop} (hgd : Region.wanted o (yielded ops a.tmps) = true) (x : Operand) (src dst : TypeId) (ho : o.op = .convert src dst x)
    (e : TypeId) (hs : P.underlying src = some (.slice e)) (he : P.underlying e = some (.int .u8)) (hd : P.underlying dst = some .string) (v : Value) (l : List UInt8) (hx : a.eval x = v) (hr : Rd w v l)
    (h : wpList P ops Q rest (a.put o.dst (.string ⟨l.toArray⟩)) w) : wpList P ops Q (o :: rest) a w := by
  refine wpList_want hgd fun K hK => ?_
  have hrun := run_strB w src dst e hs he hd v l hr
  unfold Oper.wp
  simp [execOp, ho, hx, hrun, Result.andThen]
  exact hK _ _ h

/-- '[]byte(s)'. -/
theorem run_bytS {P : Program} (w : World) (src dst e : TypeId) (s : ByteArray) (hs : P.underlying src = some .string) (hd : P.underlying dst = some (.slice e)) (he : P.underlying e = some (.int .u8)) (hl : s.size ≤ 140737488355328) :
    ∃ c w', (convert src dst (.string s)).run P w = .ok (.slice (some ⟨w.heap.size, 0, none⟩) s.size c) w' ∧ Ob w' e (.slice (some ⟨w.heap.size, 0, none⟩) s.size c) s.data.toList ∧ Fr F0 w w' ∧ w.heap.size < w'.heap.size := by
  have hr := run_bytes_of_string w src dst e s hs hd he
  have hge : s.size ≤ grownCap w s.size 0 e := grownCap_ge w s.size 0 e
  have hsz : s.data.toList.length = s.size := by rw [Array.length_toList]; rfl
  have hsz' : s.data.size = s.size := rfl
  refine ⟨_, _, hr, ⟨by simp, .inr ⟨w.heap.size, 0, grownCap w s.size 0 e, _, _, by rw [hsz], by rw [hsz]; exact hge, grownCap_le_maxLen w _ _ _ (by unfold maxLen; omega), heap_alloc_new w.drew _, .inr (Nat.le_refl _), ?_, ?_⟩⟩, ?_, by simp⟩
  · unfold bytesRow; rw [Array.size_append, Array.size_map, Array.size_replicate, hsz']; omega
  · intro j hj
    have hj' : j < s.data.size := by rw [List.length_map, hsz] at hj; rw [hsz']; exact hj
    unfold bytesRow
    rw [Nat.zero_add, Array.getElem?_append_left (by rw [Array.size_map]; exact hj')]
    simp [b8]
    exact ⟨_, Array.getElem?_eq_getElem hj', rfl⟩
  · exact ((Fr.refl _ w).drew).alloc _

theorem wpList_bytS {P : Program} {w : World} {ops : Array Oper} {rest : List Oper} {o : Oper} {a : Act} {Q : Exit → Act → World → Prop} (hgd : Region.wanted o (yielded ops a.tmps) = true) (x : Operand) (src dst : TypeId) (ho : o.op = .convert src dst x)
    (e : TypeId) (s : ByteArray) (hs : P.underlying src = some .string) (hd : P.underlying dst = some (.slice e)) (he : P.underlying e = some (.int .u8)) (hl : s.size ≤ 140737488355328) (hx : a.eval x = .string s)
    (h : ∀ c w', Ob w' e (.slice (some ⟨w.heap.size, 0, none⟩) s.size c) s.data.toList → Fr F0 w w' → w.heap.size < w'.heap.size → wpList P ops Q rest (a.put o.dst (.slice (some ⟨w.heap.size, 0, none⟩) s.size c)) w') : wpList P ops Q (o :: rest) a w := by
  refine wpList_want hgd fun K hK => ?_
  obtain ⟨c, w', hrun, h1, h2, h3⟩ := run_bytS (P := P) w src dst e s hs hd he hl
  unfold Oper.wp
  simp [execOp, ho, hx, hrun, Result.andThen]
  exact hK _ _ (h c w' h1 h2 h3)

theorem Rd.len {w : World} {a : Option Addr} {m c : Nat} {l : List UInt8} (h : Rd w (.slice a m c) l) : m = l.length := by
  obtain ⟨ao, c', h, _⟩ := h.form; cases h; rfl

/-- 'x[l:h]' of a slice. -/
theorem run_slOf {P : Program} (w : World) (t e : TypeId) (i : TypeInfo) (size : Nat) (ht : P.underlying t = some (.slice e)) (hi : P.info? e = some i) (hsz : i.size = size) (v : Value) (n : Nat) (xs : List Value) (hr : Rg w size v n xs)
    (lo hi' : Option Value) (l h : Nat) (hlo : lo = none ∧ l = 0 ∨ lo = some (.int .i64 l)) (hhi : hi' = none ∧ h = n ∨ hi' = some (.int .i64 h)) (h1 : l ≤ h) (h2 : h ≤ n) :
    ∃ a' c', (∀ w : World, (Instr.sliceAt t v lo hi' none).run P w = .ok (.slice a' (h - l) c') w) ∧ Rg w size (.slice a' (h - l) c') (h - l) ((xs.drop (l * size)).take ((h - l) * size)) ∧
      (∀ k, Value.ownBlock (.slice a' (h - l) c') = some k → v.ownBlock = some k) ∧ (a' = none ↔ v = .slice none 0 0) := by
  subst hsz
  obtain ⟨hl, hr⟩ := hr
  have hlen : ((xs.drop (l * i.size)).take ((h - l) * i.size)).length = (h - l) * i.size := by
    rw [List.length_take, List.length_drop, hl, ← Nat.sub_mul]
    exact Nat.min_eq_left (Nat.mul_le_mul_right _ (by omega))
  have run : ∀ (ao : Option Addr) (c : Nat), n ≤ c → ∀ w : World, (Instr.sliceAt t (.slice ao n c) lo hi' none).run P w = .ok (.slice (if c = l then ao else ao.map (·.add (l * i.size))) (h - l) (c - l)) w := by
    intro ao c hc w
    have hc' : h ≤ c := by omega
    rcases hlo with ⟨rfl, rfl⟩ | rfl <;> rcases hhi with ⟨rfl, rfl⟩ | rfl <;>
      simp [Instr.sliceAt, Instr.slice, run_underlying ht, Instr.sliceBounds, Instr.sliceBound, sizeOf, typeInfo, asIntOf, *]
  obtain ⟨ao, c, rfl, h3, h4, h5, h6⟩ := hr
  refine ⟨_, _, run ao c h3, ⟨hlen, _, _, rfl, by omega, by omega, ?_, fun hp => ?_⟩, ?_, ?_⟩
  · by_cases hcl : c = l
    · simp [hcl]
    · simp only [hcl, if_false, Option.map_eq_none_iff]; intro h; have := h5 h; omega
  · obtain ⟨b, o, rfl, h7, h8⟩ := h6 (by omega)
    refine ⟨b, o + l * i.size, by rw [if_neg (by omega)]; simp [addr_add], h7, fun j hj => ?_⟩
    have hj' : l * i.size + j < xs.length := by simp only [List.length_take, List.length_drop] at hj; omega
    rw [Nat.add_assoc, h8 _ hj']
    simp
  · intro k hk
    cases ao with
    | none => by_cases hcl : c = l <;> simp [hcl, Value.ownBlock] at hk
    | some a =>
      by_cases hcl : c = l
      · simpa [hcl, Value.ownBlock] using hk
      · simpa [hcl, Value.ownBlock, Addr.add, apply_ite Addr.block] using hk
  · constructor
    · intro h
      have : ao = none := by by_cases hcl : c = l <;> simpa [hcl] using h
      subst this
      have := h5 rfl
      obtain rfl : n = 0 := by omega
      subst this; rfl
    · intro h; cases h; simp

/-- 'x[l:h]' of bytes: as an equation, in whatever world. -/
theorem run_slB {P : Program} {w : World} (t e : TypeId) (ht : P.underlying t = some (.slice e)) (hi : (P.info? e).map (fun i => (i.zero, i.size, i.bytes)) = some (some (.int .u8 0), 1, 1)) (v : Value) (s : List UInt8) (hr : Rd w v s)
    (lo hi' : Option Value) (l h : Nat) (hlo : lo = none ∧ l = 0 ∨ lo = some (.int .i64 l)) (hhi : hi' = none ∧ h = s.length ∨ hi' = some (.int .i64 h)) (h1 : l ≤ h) (h2 : h ≤ s.length) :
    ∃ a' m' c', (∀ w : World, (Instr.sliceAt t v lo hi' none).run P w = .ok (.slice a' m' c') w) ∧
      Hid (Rd w (.slice a' m' c') ((s.drop l).take (h - l)) ∧ m' = h - l ∧ (∀ k, Value.ownBlock (.slice a' m' c') = some k → v.ownBlock = some k) ∧ (a' = none ↔ v = .slice none 0 0)) := by
  obtain ⟨i0, hi, _, hz1, _⟩ := info_parts hi
  obtain ⟨a', c', hrun, h3, h4, h5⟩ := run_slOf (P := P) w t e i0 1 ht hi hz1 v s.length (s.map b8) hr lo hi' l h hlo hhi h1 h2
  refine ⟨a', h - l, c', hrun, ?_, rfl, h4, h5⟩
  unfold Rd
  have hlen : ((s.drop l).take (h - l)).length = h - l := by rw [List.length_take, List.length_drop]; omega
  rw [hlen]
  simpa [List.map_take, List.map_drop] using h3

/-- 'x[l:h]' of bytes. -/
theorem wpList_slB {P : Program} {w : World} {ops : Array Oper} {rest : List Oper} {op : Oper} {a : Act} {Q : Exit → Act → World → Prop} (hgd : Region.wanted op (yielded ops a.tmps) = true) (x : Operand) (olo ohi : Option Operand) (t : TypeId) (ho : op.op = .slice t x olo ohi none)
    (e : TypeId) (ht : P.underlying t = some (.slice e)) (hi : (P.info? e).map (fun i => (i.zero, i.size, i.bytes)) = some (some (.int .u8 0), 1, 1)) (v : Value) (s : List UInt8) (hx : a.eval x = v) (hr : Rd w v s)
    (l h : Nat) (hlo : olo.map a.eval = none ∧ l = 0 ∨ olo.map a.eval = some (.int .i64 l)) (hhi : ohi.map a.eval = none ∧ h = s.length ∨ ohi.map a.eval = some (.int .i64 h)) (h1 : l ≤ h) (h2 : h ≤ s.length)
    (hk : ∀ a' m' c', Hid (Rd w (.slice a' m' c') ((s.drop l).take (h - l)) ∧ m' = h - l ∧ (∀ k, Value.ownBlock (.slice a' m' c') = some k → v.ownBlock = some k) ∧ (a' = none ↔ v = .slice none 0 0)) → wpList P ops Q rest (a.put op.dst (.slice a' m' c')) w) :
    wpList P ops Q (op :: rest) a w := by
  refine wpList_want hgd fun K hK => ?_
  obtain ⟨i0, hi, _, hz1, _⟩ := info_parts hi
  obtain ⟨a', c', hrun, h3, h4, h5⟩ := run_slOf (P := P) w t e i0 1 ht hi hz1 v s.length (s.map b8) hr (olo.map a.eval) (ohi.map a.eval) l h hlo hhi h1 h2
  unfold Oper.wp
  simp only [execOp, ho, hx, Sem.run_bind, Option.map_none, hrun]
  refine hK _ _ (hk a' (h - l) c' ⟨?_, rfl, h4, h5⟩)
  unfold Rd
  have hlen : ((s.drop l).take (h - l)).length = h - l := by rw [List.length_take, List.length_drop]; omega
  rw [hlen]
  simpa [List.map_take, List.map_drop] using h3

theorem Own.of_ownsRow {w : World} {base e size : Nat} {v : Value} {n : Nat} {xs : List Value} (h : w.ownsRow base e size v n xs) : Own w e size v n xs := by
  obtain ⟨hl, h⟩ := h
  refine ⟨hl, ?_⟩
  rcases h with h | ⟨g, cap, cur, rfl, _, h2, h3, h4, h5, h6⟩
  · exact .inl h
  · refine .inr ⟨g, 0, cap, cur, _, rfl, h3, h4, h2, .inl rfl, by omega, fun j hj => ?_⟩
    have : (cur.toList.take (n * size))[j]? = xs[j]? := by rw [h6]
    rw [List.getElem?_take, if_pos (by omega)] at this
    rw [Nat.zero_add, ← Array.getElem?_toList, this, List.getElem?_eq_getElem hj]

/-- 'make([]byte, n)'. -/
theorem wpList_mkB {P : Program} {w : World} {ops : Array Oper} {rest : List Oper} {o : Oper} {a : Act} {Q : Exit → Act → World → Prop} (hgd : Region.wanted o (yielded ops a.tmps) = true) (x y : Operand) (t : TypeId) (ho : o.op = .makeSlice t x y)
    (e : TypeId) (ht : P.underlying t = some (.slice e)) (hi : (P.info? e).map (fun i => (i.zero, i.size, i.bytes)) = some (some (.int .u8 0), 1, 1)) (n : Nat) (hx : a.eval x = .int .i64 n) (hy : a.eval y = .int .i64 n) (hn : n ≤ 140737488355328)
    (h : ∀ w', Ob w' e (.slice (some ⟨w.heap.size, 0, none⟩) n n) (List.replicate n 0) → Fr F0 w w' → w.heap.size < w'.heap.size → wpList P ops Q rest (a.put o.dst (.slice (some ⟨w.heap.size, 0, none⟩) n n)) w') : wpList P ops Q (o :: rest) a w := by
  refine wpList_want hgd fun K hK => ?_
  obtain ⟨i0, hi, hz0, hz1, hz2⟩ := info_parts hi
  obtain ⟨w', hrun, h1, h2⟩ := run_make_full (P := P) w 0 t e i0 _ 1 ht hi hz0 hz1 .i64 .i64 n (by rw [hz2]; omega) (by unfold maxLen; omega) (Nat.zero_le _)
  unfold Oper.wp
  simp [execOp, ho, hx, hy, hrun, Result.andThen]
  refine hK _ _ (h w' ?_ (Fr.of_grown h2 |>.mono (fun _ _ e => by cases e)) ?_)
  · have := Own.of_ownsRow h1
    unfold Ob
    have hr : (madeCells (Value.int .u8 0).cells (n * 1)).toList = (List.replicate n (0 : UInt8)).map b8 := by
      rw [Nat.mul_one]
      have := toList_madeCells_one (.int .u8 0) n
      rw [show (Value.int .u8 0).cells = #[.int .u8 0] from rfl, this, List.map_replicate]; rfl
    rw [hr] at this
    simpa using this
  · have := h1.lt w.heap.size rfl; omega

end Go.Proofs.Ytfalaopljodmnaa
