/- SHA-256, the program's: step, where its arrays come from. -/
import Derived.Test.YtfalaopljodmnaaShaK
import Derived.Test.YtfalaopljodmnaaInv
namespace Go.Proofs.Ytfalaopljodmnaa
open Go.RowKit

/-- A new block of this size. -/
structure BK (n : Nat) (W : World) (x : Value) (t sz : Nat) (b : Nat) (A : Array Value) : Prop where
  x : x = .pointer (some ⟨b, 0, none⟩)
  lt : n + 2 ≤ b
  at_ : W.heap[b]? = some (.cells A t (0, 0))
  size : A.size = sz

theorem BK.keep {n : Nat} {W W' : World} {x : Value} {t sz b : Nat} {A : Array Value} (h : BK n W x t sz b A) {S : Nat → Prop} (f : Fr S W W') (hn : ¬ S b) : BK n W' x t sz b A :=
  ⟨h.x, h.lt, f.heap h.at_ hn, h.size⟩

/-- What holds wherever the region stands. -/
structure JJ (w : World) (s kA wA : Array Value) (v : Value) (tw ts : Nat) (d : Nat → Bool) (W : World) (x5 x6 x7 x14 x15 x16 x17 : Value) : Prop where
  fr : Fr F0 w W
  big : w.heap.size + 2 ≤ W.heap.size
  hs : W.heap[w.heap.size]? = some (.cells s ts (0, 0))
  ho : ∃ A, W.heap[w.heap.size + 1]? = some (.cells A ts (0, 0)) ∧ A.size = 8
  c14 : d 0 = true → x14 = .agg kA
  c15 : d 1 = true → x15 = v
  c16 : d 2 = true → x16 = .agg wA
  c17 : d 3 = true → x17 = .agg s
  c5 : d 4 = true → ∃ b A, BK w.heap.size W x5 tw 64 b A ∧ (d 7 = true → A = kA)
  c6 : d 5 = true → ∃ b A, BK w.heap.size W x6 tw 64 b A ∧ (d 8 = true → A = wA)
  c7 : d 6 = true → ∃ b A, BK w.heap.size W x7 ts 8 b A ∧ (d 9 = true → A = s)
  n56 : d 4 = true → d 5 = true → x5 ≠ x6
  n57 : d 4 = true → d 6 = true → x5 ≠ x7
  n67 : d 5 = true → d 6 = true → x6 ≠ x7
  l7 : d 7 = true → d 4 = true
  l8 : d 8 = true → d 5 = true
  l9 : d 9 = true → d 6 = true

section
variable {w : World} {s kA wA : Array Value} {v : Value} {tw ts : Nat} {d : Nat → Bool} {W W' : World} {x5 x6 x7 x14 x15 x16 x17 : Value}

theorem F0.there {a b c : World} (h : Fr F0 a b) {S : Nat → Prop} (k : Fr S b c) (hs : ∀ i, S i → a.heap.size ≤ i) : Fr F0 a c := Fr.trans h k (fun i hi e => by have := hs i e; omega)

theorem JJ.keep (h : JJ w s kA wA v tw ts d W x5 x6 x7 x14 x15 x16 x17) (f : Fr F0 W W') : JJ w s kA wA v tw ts d W' x5 x6 x7 x14 x15 x16 x17 where
  fr := h.fr.trans f (fun _ _ e => e)
  big := Nat.le_trans h.big f.size
  hs := f.heap h.hs (fun e => e)
  ho := let ⟨A, h1, h2⟩ := h.ho; ⟨A, f.heap h1 (fun e => e), h2⟩
  c14 := h.c14
  c15 := h.c15
  c16 := h.c16
  c17 := h.c17
  c5 := fun e => let ⟨b, A, h1, h2⟩ := h.c5 e; ⟨b, A, h1.keep f (fun e => e), h2⟩
  c6 := fun e => let ⟨b, A, h1, h2⟩ := h.c6 e; ⟨b, A, h1.keep f (fun e => e), h2⟩
  c7 := fun e => let ⟨b, A, h1, h2⟩ := h.c7 e; ⟨b, A, h1.keep f (fun e => e), h2⟩
  n56 := h.n56
  n57 := h.n57
  n67 := h.n67
  l7 := h.l7
  l8 := h.l8
  l9 := h.l9

theorem JJ.s0 (h : JJ w s kA wA v tw ts d W x5 x6 x7 x14 x15 x16 x17) (f : Fr F0 W W') : JJ w s kA wA v tw ts (up d 0) W' x5 x6 x7 (.agg kA) x15 x16 x17 :=
  { h.keep f with c14 := fun _ => rfl }
theorem JJ.s1 (h : JJ w s kA wA v tw ts d W x5 x6 x7 x14 x15 x16 x17) : JJ w s kA wA v tw ts (up d 1) W x5 x6 x7 x14 v x16 x17 :=
  { h with c15 := fun _ => rfl }
theorem JJ.s2 (h : JJ w s kA wA v tw ts d W x5 x6 x7 x14 x15 x16 x17) (f : Fr F0 W W') : JJ w s kA wA v tw ts (up d 2) W' x5 x6 x7 x14 x15 (.agg wA) x17 :=
  { h.keep f with c16 := fun _ => rfl }
theorem JJ.s3 (h : JJ w s kA wA v tw ts d W x5 x6 x7 x14 x15 x16 x17) : JJ w s kA wA v tw ts (up d 3) W x5 x6 x7 x14 x15 x16 (.agg s) :=
  { h with c17 := fun _ => rfl }

theorem BK.fresh {n : Nat} {W : World} (hb : n + 2 ≤ W.heap.size) (t : Nat) (A : Array Value) : BK n (W.alloc (.cells A t)) (.pointer (some ⟨W.heap.size, 0, none⟩)) t A.size W.heap.size A :=
  ⟨rfl, hb, heap_alloc_last _ _, rfl⟩

theorem BK.ne {n : Nat} {W : World} {x : Value} {t sz b : Nat} {A : Array Value} (h : BK n W x t sz b A) : x ≠ .pointer (some ⟨W.heap.size, 0, none⟩) := by
  intro e
  have h1 := h.x
  rw [e] at h1
  have h2 := lt_of_heap h.at_
  injection h1 with h1
  injection h1 with h1
  injection h1 with h1
  omega

theorem JJ.s4 (h : JJ w s kA wA v tw ts d W x5 x6 x7 x14 x15 x16 x17) (h4 : d 4 = false) (A : Array Value) (hA : A.size = 64) :
    JJ w s kA wA v tw ts (up d 4) (W.alloc (.cells A tw)) (.pointer (some ⟨W.heap.size, 0, none⟩)) x6 x7 x14 x15 x16 x17 :=
  { h.keep ((Fr.refl F0 W).alloc _) with
    c5 := fun _ => ⟨_, A, hA ▸ BK.fresh h.big tw A, fun e => by have e := h.l7 e; rw [h4] at e; cases e⟩
    l7 := fun _ => rfl
    n56 := fun _ e e2 => let ⟨_, _, h1, _⟩ := h.c6 e; h1.ne e2.symm
    n57 := fun _ e e2 => let ⟨_, _, h1, _⟩ := h.c7 e; h1.ne e2.symm }
theorem JJ.s5 (h : JJ w s kA wA v tw ts d W x5 x6 x7 x14 x15 x16 x17) (h4 : d 5 = false) (A : Array Value) (hA : A.size = 64) :
    JJ w s kA wA v tw ts (up d 5) (W.alloc (.cells A tw)) x5 (.pointer (some ⟨W.heap.size, 0, none⟩)) x7 x14 x15 x16 x17 :=
  { h.keep ((Fr.refl F0 W).alloc _) with
    c6 := fun _ => ⟨_, A, hA ▸ BK.fresh h.big tw A, fun e => by have e := h.l8 e; rw [h4] at e; cases e⟩
    l8 := fun _ => rfl
    n56 := fun e _ e2 => let ⟨_, _, h1, _⟩ := h.c5 e; h1.ne e2
    n67 := fun _ e e2 => let ⟨_, _, h1, _⟩ := h.c7 e; h1.ne e2.symm }
theorem JJ.s6 (h : JJ w s kA wA v tw ts d W x5 x6 x7 x14 x15 x16 x17) (h4 : d 6 = false) (A : Array Value) (hA : A.size = 8) :
    JJ w s kA wA v tw ts (up d 6) (W.alloc (.cells A ts)) x5 x6 (.pointer (some ⟨W.heap.size, 0, none⟩)) x14 x15 x16 x17 :=
  { h.keep ((Fr.refl F0 W).alloc _) with
    c7 := fun _ => ⟨_, A, hA ▸ BK.fresh h.big ts A, fun e => by have e := h.l9 e; rw [h4] at e; cases e⟩
    l9 := fun _ => rfl
    n57 := fun e _ e2 => let ⟨_, _, h1, _⟩ := h.c5 e; h1.ne e2
    n67 := fun e _ e2 => let ⟨_, _, h1, _⟩ := h.c6 e; h1.ne e2 }

theorem JJ.st (h : JJ w s kA wA v tw ts d W x5 x6 x7 x14 x15 x16 x17) {b : Nat} (hb : w.heap.size + 2 ≤ b) (f : Fr (fun k => k = b) W W') :
    Fr F0 w W' ∧ w.heap.size + 2 ≤ W'.heap.size ∧ W'.heap[w.heap.size]? = some (.cells s ts (0, 0)) ∧ ∃ A, W'.heap[w.heap.size + 1]? = some (.cells A ts (0, 0)) ∧ A.size = 8 :=
  ⟨F0.there h.fr f (fun i e => by omega), Nat.le_trans h.big f.size, f.heap h.hs (by omega), let ⟨A, h1, h2⟩ := h.ho; ⟨A, f.heap h1 (by omega), h2⟩⟩

theorem BK.other {n : Nat} {x y : Value} {t sz b t' sz' b' : Nat} {A A' : Array Value} (h : BK n W x t sz b A) (k : BK n W y t' sz' b' A') (e : x ≠ y) : b' ≠ b := by
  intro eb
  subst eb
  exact e (h.x.trans k.x.symm)

theorem JJ.s7 (h : JJ w s kA wA v tw ts d W x5 x6 x7 x14 x15 x16 x17) (h4 : d 4 = true) {b : Nat} {A : Array Value} (hb : BK w.heap.size W x5 tw 64 b A) (hk : kA.size = 64)
    (g : W'.heap[b]? = some (.cells kA tw (0, 0))) (f : Fr (fun k => k = b) W W') : JJ w s kA wA v tw ts (up d 7) W' x5 x6 x7 x14 x15 x16 x17 :=
  have q := h.st hb.lt f
  { h with
    fr := q.1, big := q.2.1, hs := q.2.2.1, ho := q.2.2.2, l7 := fun _ => h4
    c5 := fun _ => ⟨b, kA, ⟨hb.x, hb.lt, g, hk⟩, fun _ => rfl⟩
    c6 := fun e => let ⟨b', A', h1, h2⟩ := h.c6 e; ⟨b', A', h1.keep f (hb.other h1 (h.n56 h4 e)), h2⟩
    c7 := fun e => let ⟨b', A', h1, h2⟩ := h.c7 e; ⟨b', A', h1.keep f (hb.other h1 (h.n57 h4 e)), h2⟩ }
theorem JJ.s8 (h : JJ w s kA wA v tw ts d W x5 x6 x7 x14 x15 x16 x17) (h5 : d 5 = true) {b : Nat} {A : Array Value} (hb : BK w.heap.size W x6 tw 64 b A) (hk : wA.size = 64)
    (g : W'.heap[b]? = some (.cells wA tw (0, 0))) (f : Fr (fun k => k = b) W W') : JJ w s kA wA v tw ts (up d 8) W' x5 x6 x7 x14 x15 x16 x17 :=
  have q := h.st hb.lt f
  { h with
    fr := q.1, big := q.2.1, hs := q.2.2.1, ho := q.2.2.2, l8 := fun _ => h5
    c5 := fun e => let ⟨b', A', h1, h2⟩ := h.c5 e; ⟨b', A', h1.keep f (hb.other h1 (Ne.symm (h.n56 e h5))), h2⟩
    c6 := fun _ => ⟨b, wA, ⟨hb.x, hb.lt, g, hk⟩, fun _ => rfl⟩
    c7 := fun e => let ⟨b', A', h1, h2⟩ := h.c7 e; ⟨b', A', h1.keep f (hb.other h1 (h.n67 h5 e)), h2⟩ }
theorem JJ.s9 (h : JJ w s kA wA v tw ts d W x5 x6 x7 x14 x15 x16 x17) (h6 : d 6 = true) {b : Nat} {A : Array Value} (hb : BK w.heap.size W x7 ts 8 b A) (hk : s.size = 8)
    (g : W'.heap[b]? = some (.cells s ts (0, 0))) (f : Fr (fun k => k = b) W W') : JJ w s kA wA v tw ts (up d 9) W' x5 x6 x7 x14 x15 x16 x17 :=
  have q := h.st hb.lt f
  { h with
    fr := q.1, big := q.2.1, hs := q.2.2.1, ho := q.2.2.2, l9 := fun _ => h6
    c5 := fun e => let ⟨b', A', h1, h2⟩ := h.c5 e; ⟨b', A', h1.keep f (hb.other h1 (Ne.symm (h.n57 e h6))), h2⟩
    c6 := fun e => let ⟨b', A', h1, h2⟩ := h.c6 e; ⟨b', A', h1.keep f (hb.other h1 (Ne.symm (h.n67 e h6))), h2⟩
    c7 := fun _ => ⟨b, s, ⟨hb.x, hb.lt, g, hk⟩, fun _ => rfl⟩ }
end

end Go.Proofs.Ytfalaopljodmnaa
