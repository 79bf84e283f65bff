/- Two sessions side by side: contracts of the methods over what lies beside. -/
import Derived.Test.YtfalaopljodmnaaSesL
import Derived.Test.YtfalaopljodmnaaSesM
namespace Go.Proofs.Ytfalaopljodmnaa
open Go.RowKit Go.Maps

/-- A block as a session's own ones are. -/
def SesBlk (W : World) (q : Nat) : Prop := (∃ cs fz, W.heap[q]? = some (.cells cs 116 fz) ∨ W.heap[q]? = some (.cells cs 118 fz)) ∨ ∃ es c, W.heap[q]? = some (.map es c)

/-- Only such blocks, and new ones, have changed. -/
def Kept (W W' : World) : Prop := Fr (SesBlk W) W W'

theorem Kept.refl (W : World) : Kept W W := Fr.refl _ _
theorem Kept.of0 {W W' : World} (f : Fr F0 W W') : Kept W W' := f.mono fun _ _ e => e.elim
theorem Kept.trans {a b c : World} (h : Kept a b) (k : Kept b c) : Kept a c := by
  refine Fr.trans h k fun i hi hb => ?_
  refine Classical.byContradiction fun hn => ?_
  have := h.block i hi hn
  unfold SesBlk at hb hn
  rw [this] at hb
  exact hn hb
theorem Kept.drew (W : World) : Kept W W.drew := Kept.of0 (Fr.refl _ _).drew

theorem Se.blks {W : World} {sb : Nat} {S : St} {rv : Value} {vs : List Value} {mb N : Nat} (h : Se W sb S rv vs mb N) : ∀ q, SeM sb rv mb q → SesBlk W q := by
  rintro q (rfl | hq | rfl)
  · exact .inl ⟨_, _, .inl h.blk⟩
  · obtain ⟨cs, f, h'⟩ := h.row.tag q hq
    exact .inl ⟨_, _, .inr h'⟩
  · obtain ⟨D, n, ⟨es, clock, hb, _⟩, _⟩ := h.em
    exact .inr ⟨_, _, hb⟩

theorem Se.kept {W W' : World} {sb : Nat} {S : St} {rv : Value} {vs : List Value} {mb N : Nat} (h : Se W sb S rv vs mb N) (f : Fr (SeM sb rv mb) W W') : Kept W W' := f.mono fun q _ e => h.blks q e

theorem NB.ses (W : World) : NB W (SesBlk W) := by
  rintro q cs fz (⟨cs', fz', h | h⟩ | ⟨es, c, h⟩) hc
  · rw [h] at hc; injection hc with hc; injection hc with _ hc; exact absurd hc (by decide)
  · rw [h] at hc; injection hc with hc; injection hc with _ hc; exact absurd hc (by decide)
  · rw [h] at hc; cases hc

/-- A block of another kind stays. -/
theorem Kept.heap {W W' : World} (k : Kept W W') {q : Nat} {cs : Array Value} {ty : TypeId} {fz : Nat × Nat} (h : W.heap[q]? = some (.cells cs ty fz)) (h1 : ty ≠ 116) (h2 : ty ≠ 118) : W'.heap[q]? = some (.cells cs ty fz) := by
  refine Fr.heap k h ?_
  rintro (⟨cs', fz', h' | h'⟩ | ⟨es, c, h'⟩)
  · rw [h'] at h; injection h with h; injection h with _ h; exact h1 h.symm
  · rw [h'] at h; injection h with h; injection h with _ h; exact h2 h.symm
  · rw [h'] at h; cases h

theorem Rt.kept {W W' : World} {v : Value} {l : List UInt8} (h : Rt W v l) (k : Kept W W') : Rt W' v l := h.keep k (NB.ses W)

theorem Bl.kept {W W' : World} {v : Value} {us : List Value} {ls : List (List UInt8)} (h : Bl W v us ls) (k : Kept W W') : Bl W' v us ls := by
  refine h.keep k (fun q hq e => ?_) (NB.ses W)
  obtain ⟨cs, f, h'⟩ := h.own.tag q hq
  rcases e with ⟨cs', fz', h2 | h2⟩ | ⟨es, c, h2⟩
  · rw [h'] at h2; injection h2 with h2; injection h2 with _ h2; exact absurd h2 (by decide)
  · rw [h'] at h2; injection h2 with h2; injection h2 with _ h2; exact absurd h2 (by decide)
  · rw [h'] at h2; cases h2

/-- Two sessions, in blocks made since w0. -/
def Two (w0 W : World) (sa : Nat) (A : St) (NA : Nat) (sb : Nat) (B : St) (NB : Nat) : Prop :=
  ∃ rva vsa mba rvb vsb mbb, Se W sa A rva vsa mba NA ∧ Se W sb B rvb vsb mbb NB ∧ (∀ k, SeM sa rva mba k → SeM sb rvb mbb k → False) ∧ (∀ k, SeM sa rva mba k → w0.heap.size ≤ k) ∧ (∀ k, SeM sb rvb mbb k → w0.heap.size ≤ k) ∧ Fr F0 w0 W

theorem Two.swap {w0 W : World} {sa : Nat} {A : St} {NA sb : Nat} {B : St} {NB : Nat} (h : Two w0 W sa A NA sb B NB) : Two w0 W sb B NB sa A NA := by
  obtain ⟨rva, vsa, mba, rvb, vsb, mbb, h1, h2, h3, h4, h5, h6⟩ := h
  exact ⟨rvb, vsb, mbb, rva, vsa, mba, h2, h1, fun k a b => h3 k b a, h5, h4, h6⟩

theorem Two.keep0 {w0 W W' : World} {sa : Nat} {A : St} {NA sb : Nat} {B : St} {NB : Nat} (h : Two w0 W sa A NA sb B NB) (f : Fr F0 W W') : Two w0 W' sa A NA sb B NB := by
  obtain ⟨rva, vsa, mba, rvb, vsb, mbb, h1, h2, h3, h4, h5, h6⟩ := h
  exact ⟨rva, vsa, mba, rvb, vsb, mbb, h1.keep0 f, h2.keep0 f, h3, h4, h5, F0.and h6 f⟩

/-- What is done to the first one. -/
theorem Two.step {w0 W W' : World} {sa : Nat} {A A' : St} {NA NA' sb : Nat} {B : St} {N_B : Nat} {rva rvb rva' : Value} {vsa vsb vsa' : List Value} {mba mbb mba' : Nat} (h1 : Se W sa A rva vsa mba NA) (h2 : Se W sb B rvb vsb mbb N_B) (h3 : ∀ k, SeM sa rva mba k → SeM sb rvb mbb k → False)
    (h4 : ∀ k, SeM sa rva mba k → w0.heap.size ≤ k) (h5 : ∀ k, SeM sb rvb mbb k → w0.heap.size ≤ k) (h6 : Fr F0 w0 W) (s : Se W' sa A' rva' vsa' mba' NA') (f : Fr (SeM sa rva mba) W W') (o : ∀ k, SeM sa rva' mba' k → SeM sa rva mba k ∨ W.heap.size ≤ k) : Two w0 W' sa A' NA' sb B N_B := by
  refine ⟨rva', vsa', mba', rvb, vsb, mbb, s, h2.keep f (fun k hk e => h3 k e hk) (fun q cs fz hq hc => h1.nb q cs fz hq hc), fun k a b => (o k a).elim (fun e => h3 k e b) (fun e => by have := h2.lt k b; omega), fun k a => (o k a).elim (h4 k) (fun e => Nat.le_trans h6.size e), h5,
    Fr.trans h6 f (fun k hk e => by have := h4 k e; omega)⟩

/-- Send. -/
def sendSt (S : St) (b : List UInt8) : St := { S with l := S.l ++ [⟨b, false, 0⟩] }

theorem two_send {w0 W : World} {sa : Nat} {A : St} {NA sb : Nat} {B : St} {N_B : Nat} (x : Value) (b : List UInt8) (h : Two w0 W sa A NA sb B N_B) (hr : Rd W x b) (hb : b.length ≤ 40000) (hl : A.l.length < 200) :
    Calls Try.prog 44 #[.pointer (some ⟨sa, 0, none⟩), x] W fun e W' => e = .returned (.int .i64 0) ∧ Two w0 W' sa (sendSt A b) NA sb B N_B ∧ Kept W W' := by
  obtain ⟨rva, vsa, mba, rvb, vsb, mbb, h1, h2, h3, h4, h5, h6⟩ := h
  refine (send_c sa A rva vsa mba NA x b W h1 hr hb hl).mono ?_
  rintro e W' ⟨rfl, rv', v', s, f, o⟩
  exact ⟨rfl, Two.step h1 h2 h3 h4 h5 h6 s f (fun k hk => hk.elim (fun e => .inl (.inl e)) (fun hk => hk.elim (fun e => (o k e).imp (fun e => .inr (.inl e)) id) (fun e => .inl (.inr (.inr e))))), h1.kept f⟩

theorem two_out {w0 W : World} {sa : Nat} {A : St} {NA sb : Nat} {B : St} {N_B : Nat} (now : Int) (h : Two w0 W sa A NA sb B N_B) (hok : SOk A) (hnow : -1000000000000 ≤ now ∧ now ≤ 1000000000000) :
    Calls Try.prog 53 #[.pointer (some ⟨sa, 0, none⟩), .int .i64 now] W fun e W' => ∃ r us, e = .returned r ∧ Bl W' r us (outSt A now).2 ∧ New W r ∧ Two w0 W' sa (outSt A now).1 NA sb B N_B ∧ Kept W W' := by
  obtain ⟨rva, vsa, mba, rvb, vsb, mbb, h1, h2, h3, h4, h5, h6⟩ := h
  refine (out_c sa A rva vsa mba NA now W h1 hok hnow).mono ?_
  rintro e W' ⟨r, us, rfl, b, s, f, n⟩
  exact ⟨r, us, rfl, b, n, Two.step h1 h2 h3 h4 h5 h6 s f (fun k hk => .inl hk), h1.kept f⟩

theorem two_in {w0 W : World} {sa : Nat} {A : St} {NA sb : Nat} {B : St} {N_B : Nat} (v : Value) (l : List UInt8) (F : Flds) (now : Int) (h : Two w0 W sa A NA sb B N_B) (hok : SOk A) (hr : Rd W v l) (hl : l.length ≤ 35184372088832) (ho : rdF l = some F) (hN : NA < 1000000) :
    Calls Try.prog 51 #[.pointer (some ⟨sa, 0, none⟩), v, .int .i64 now] W fun e W' => ∃ r us, e = .returned (.tuple #[r, .int .i64 0]) ∧ Bl W' r us (inSt A F).2 ∧ New W r ∧ Two w0 W' sa (inSt A F).1 (NA + 1) sb B N_B ∧ Kept W W' := by
  obtain ⟨rva, vsa, mba, rvb, vsb, mbb, h1, h2, h3, h4, h5, h6⟩ := h
  refine (in_some sa A rva vsa mba NA v l now W F h1 hok hr hl ho hN).mono ?_
  rintro e W' ⟨r, us, rv', vs', mb', rfl, s, b, f, n, o⟩
  exact ⟨r, us, rfl, b, n, Two.step h1 h2 h3 h4 h5 h6 s f o, h1.kept f⟩

theorem two_waiting {w0 W : World} {sa : Nat} {A : St} {NA sb : Nat} {B : St} {N_B : Nat} (h : Two w0 W sa A NA sb B N_B) : Calls Try.prog 48 #[.pointer (some ⟨sa, 0, none⟩)] W fun e W' => e = .returned (.int .i64 (A.l.length : Int)) ∧ W = W' := by
  obtain ⟨rva, vsa, mba, rvb, vsb, mbb, h1, _⟩ := h
  exact waiting_c W h1
theorem two_epoch {w0 W : World} {sa : Nat} {A : St} {NA sb : Nat} {B : St} {N_B : Nat} (h : Two w0 W sa A NA sb B N_B) : Calls Try.prog 54 #[.pointer (some ⟨sa, 0, none⟩)] W fun e W' => e = .returned (.int .i64 A.epoch) ∧ W = W' := by
  obtain ⟨rva, vsa, mba, rvb, vsb, mbb, h1, _⟩ := h
  exact epoch_c W h1
theorem two_peer {w0 W : World} {sa : Nat} {A : St} {NA sb : Nat} {B : St} {N_B : Nat} (h : Two w0 W sa A NA sb B N_B) : Calls Try.prog 55 #[.pointer (some ⟨sa, 0, none⟩)] W fun e W' => e = .returned (.int .i64 A.peer) ∧ W = W' := by
  obtain ⟨rva, vsa, mba, rvb, vsb, mbb, h1, _⟩ := h
  exact peer_c W h1

/-- The second one is made behind the first one. -/
theorem Two.made {w0 W W' : World} {sa sb : Nat} {A B : St} {rva rvb : Value} {vsa vsb : List Value} {mba mbb NA N_B : Nat} (h1 : Se W sa A rva vsa mba NA) (h4 : ∀ k, SeM sa rva mba k → w0.heap.size ≤ k) (h6 : Fr F0 w0 W) (h2 : Se W' sb B rvb vsb mbb N_B) (f : Fr F0 W W') (n : SeNew W sb rvb mbb) : Two w0 W' sa A NA sb B N_B :=
  ⟨rva, vsa, mba, rvb, vsb, mbb, h1.keep0 f, h2, fun k a b => by have := h1.lt k a; have := n k b; omega, h4, fun k b => Nat.le_trans h6.size (n k b), F0.and h6 f⟩

end Go.Proofs.Ytfalaopljodmnaa
