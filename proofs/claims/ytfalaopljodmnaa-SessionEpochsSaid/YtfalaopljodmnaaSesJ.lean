/- session: In. -/
import Derived.Test.YtfalaopljodmnaaSesK
import Derived.Deep.DeepCutAuto
import Derived.Deep.CutBlock
import Derived.IntWalk
import Derived.DataShut
namespace Go.Proofs.Ytfalaopljodmnaa
open Go.RowKit Go.Maps

theorem EM.le {W : World} {mb N N' : Nat} {E : List (Int × List UInt8)} (h : EM W mb E N) (hN : N ≤ N') : EM W mb E N' := by
  obtain ⟨D, n, h1, h2, h3⟩ := h
  exact ⟨D, n, h1, ⟨Nat.le_trans h2.1 hN, Nat.le_trans h2.2 hN⟩, h3⟩

theorem Se.le {W : World} {sb : Nat} {S : St} {rv : Value} {vs : List Value} {mb N N' : Nat} (h : Se W sb S rv vs mb N) (hN : N ≤ N') : Se W sb S rv vs mb N' :=
  ⟨h.blk, h.len, h.row, h.bs, h.em.le hN, h.ap⟩

/-- On In's way: the session, and the frame's fields. -/
def InR (w W : World) (sb : Nat) (S1 : St) (fb : Nat) (F : Flds) (rv0 : Value) (mb0 N : Nat) : Prop :=
  ∃ rv vs mb fv, Se W sb S1 rv vs mb N ∧ W.heap[fb]? = some (.cells #[.int .i64 (F.epoch : Int), .int .i64 (F.known : Int), .int .i64 (F.seq : Int), .int .i64 (F.ack : Int), fv] 121 (0, 0)) ∧ Rt W fv F.b ∧ Fr (SeM sb rv0 mb0) w W ∧
    (∀ k, SeM sb rv mb k → SeM sb rv0 mb0 k ∨ w.heap.size ≤ k)

theorem Se.nf {W : World} {sb : Nat} {S : St} {rv : Value} {vs : List Value} {mb N fb : Nat} {cs : Array Value} {fz : Nat × Nat} (h : Se W sb S rv vs mb N) (hf : W.heap[fb]? = some (.cells cs 121 fz)) : ¬ SeM sb rv mb fb := by
  rintro (rfl | hq | rfl)
  · rw [h.blk] at hf; injection hf with hf; injection hf with _ hf; exact absurd hf (by decide)
  · obtain ⟨cs', f', h'⟩ := h.row.tag fb hq
    rw [h'] at hf; injection hf with hf; injection hf with _ hf; exact absurd hf (by decide)
  · obtain ⟨D, n, ⟨es, clock, hb, _⟩, _⟩ := h.em
    rw [hb] at hf; cases hf

theorem InR.keep0 {w W W' : World} {sb : Nat} {S1 : St} {fb : Nat} {F : Flds} {rv0 : Value} {mb0 N : Nat} (h : InR w W sb S1 fb F rv0 mb0 N) (f : Fr F0 W W') : InR w W' sb S1 fb F rv0 mb0 N := by
  obtain ⟨rv, vs, mb, fv, h1, h2, h3, h4, h5⟩ := h
  exact ⟨rv, vs, mb, fv, h1.keep0 f, f.heap h2 (fun e => e), h3.keep0 f, Fr.trans h4 f (fun _ _ e => e.elim), h5⟩

/-- The session itself is written. -/
theorem InR.write {w W W' : World} {sb : Nat} {S1 S2 : St} {fb : Nat} {F : Flds} {rv0 rv rv' fv : Value} {vs vs' : List Value} {mb mb' mb0 N N' : Nat} (h : Se W sb S1 rv vs mb N)
    (h2 : W.heap[fb]? = some (.cells #[.int .i64 (F.epoch : Int), .int .i64 (F.known : Int), .int .i64 (F.seq : Int), .int .i64 (F.ack : Int), fv] 121 (0, 0))) (h3 : Rt W fv F.b) (h4 : Fr (SeM sb rv0 mb0) w W)
    (h5 : ∀ k, SeM sb rv mb k → SeM sb rv0 mb0 k ∨ w.heap.size ≤ k) (h' : Se W' sb S2 rv' vs' mb' N') (f : Fr (SeM sb rv mb) W W') (h6 : ∀ k, SeM sb rv' mb' k → SeM sb rv mb k ∨ W.heap.size ≤ k) :
    InR w W' sb S2 fb F rv0 mb0 N' :=
  ⟨rv', vs', mb', fv, h', f.heap h2 (h.nf h2), h3.keep f h.nb, Fr.trans h4 f (fun k hk e => (h5 k e).elim id (fun e' => by omega)), fun k hk => (h6 k hk).elim (h5 k) (fun e => .inr (Nat.le_trans h4.size e))⟩

theorem stale_lt {S : St} {F : Flds} (h : (F.epoch : Int) < S.peer) : stale S F = true := by simp [stale, h]
theorem stale_ne {S : St} {F : Flds} (h : (F.known : Int) ≠ 0) (h' : (F.known : Int) ≠ S.epoch) : stale S F = true := by
  unfold stale; rw [decide_eq_true h, decide_eq_true h']; simp
theorem stale_no {S : St} {F : Flds} (h : ¬ (F.epoch : Int) < S.peer) (h' : (F.known : Int) = 0 ∨ (F.known : Int) = S.epoch) : stale S F = false := by
  unfold stale; rw [decide_eq_false h]
  rcases h' with h' | h' <;> simp [h']

theorem InR.weak {w W : World} {sb : Nat} {S1 : St} {fb : Nat} {F : Flds} {rv0 : Value} {mb0 N : Nat} (h : InR w W sb S1 fb F rv0 mb0 0) : InR w W sb S1 fb F rv0 mb0 N := by
  obtain ⟨rv, vs, mb, fv, h1, h2⟩ := h
  exact ⟨rv, vs, mb, fv, h1.le (Nat.zero_le _), h2⟩

theorem InR.met {w W W2 : World} {sb : Nat} {S : St} {fb : Nat} {F : Flds} {rv : Value} {mb N : Nat} (h : InR w W sb S fb F rv mb N) (hp : ¬ S.peer < (F.epoch : Int)) (f : Fr F0 W W2) : InR w W2 sb (metSt S F) fb F rv mb N := by
  unfold metSt; rw [if_neg hp]; exact h.keep0 f

def ackB (S : St) (known ack : Int) : Bool := decide (known = S.epoch ∧ 0 < ack - S.first + 1 ∧ ack - S.first + 1 ≤ S.l.length)
def earlyB (S : St) (seq : Int) : Bool := decide (S.have_ < seq ∧ seq - S.have_ ≤ 200)

theorem ackSt_no {S : St} {k a : Int} (h : ackB S k a = false) : ackSt S k a = S := by
  have : ackN S k a = 0 := by
    unfold ackN; unfold ackB at h; rw [if_neg (by simpa using h)]
  unfold ackSt; rw [this]; simp

theorem ackB_yes {S : St} {k a : Int} (h : ackB S k a = true) : ∃ n : Nat, a - S.first + 1 = n ∧ n ≤ S.l.length ∧ ackSt S k a = { S with l := S.l.drop n, first := S.first + n } := by
  unfold ackB at h
  have h := of_decide_eq_true h
  refine ⟨(a - S.first + 1).toNat, by omega, by omega, ?_⟩
  have : ackN S k a = (a - S.first + 1).toNat := by unfold ackN; rw [if_pos h]
  unfold ackSt; rw [this]

theorem earlySt_no {S : St} {q : Int} {b : List UInt8} (h : earlyB S q = false) : earlySt S q b = { S with tell := true } := by
  unfold earlyB at h; unfold earlySt; rw [if_neg (by simpa using h)]

/-- What In tells. -/
def InTo (w : World) (sb : Nat) (S : St) (rv : Value) (mb N : Nat) (o : Option Flds) (e : Ending) (w' : World) : Prop :=
  match o with
  | none => e = .returned (.tuple #[.slice none 0 0, .int .i64 2]) ∧ Fr F0 w w'
  | some F => ∃ r us rv' vs' mb', e = .returned (.tuple #[r, .int .i64 0]) ∧ Se w' sb (inSt S F).1 rv' vs' mb' (N + 1) ∧ Bl w' r us (inSt S F).2 ∧ Fr (SeM sb rv mb) w w' ∧ New w r ∧ (∀ k, SeM sb rv' mb' k → SeM sb rv mb k ∨ w.heap.size ≤ k)

theorem InTo.stale {w W : World} {sb : Nat} {S : St} {fb : Nat} {F : Flds} {rv : Value} {mb N : Nat} {e : Ending} (h : InR w W sb S fb F rv mb N) (hs : stale S F = true) (he : e = .returned (.tuple #[.slice none 0 0, .int .i64 0])) : InTo w sb S rv mb N (some F) e W := by
  obtain ⟨rv', vs, mb', fv, h1, h2, h3, h4, h5⟩ := h
  have hi : inSt S F = (S, []) := by unfold inSt; rw [if_pos hs]
  refine ⟨_, [], rv', vs, mb', he, ?_, ?_, h4, New.nil _ _ _, h5⟩
  · rw [hi]; exact h1.le (Nat.le_succ N)
  · rw [hi]; exact Bl.nil _

/-- What is left to tell, once the other end's life is known. -/
def InT (w w' : World) (sb : Nat) (S2 : St) (F : Flds) (rv : Value) (mb N : Nat) (e : Ending) : Prop :=
  ∃ r us rv' vs' mb', e = .returned (.tuple #[r, .int .i64 0]) ∧ Se w' sb (if F.seq = 0 then (S2, []) else takeSt (earlySt (S2) F.seq F.b)).1 rv' vs' mb' (N + 1) ∧
    Bl w' r us (if F.seq = 0 then (S2, []) else takeSt (earlySt (S2) F.seq F.b)).2 ∧ Fr (SeM sb rv mb) w w' ∧ New w r ∧ (∀ k, SeM sb rv' mb' k → SeM sb rv mb k ∨ w.heap.size ≤ k)

theorem InT.to {w w' : World} {sb : Nat} {S : St} {F : Flds} {rv : Value} {mb N : Nat} {e : Ending} (h : InT w w' sb (ackSt (metSt S F) F.known F.ack) F rv mb N e) (hs : stale S F = false) : InTo w sb S rv mb N (some F) e w' := by
  obtain ⟨r, us, rv', vs', mb', h1, h2, h3, h4⟩ := h
  have hi : inSt S F = if F.seq = 0 then (ackSt (metSt S F) F.known F.ack, []) else takeSt (earlySt (ackSt (metSt S F) F.known F.ack) F.seq F.b) := by
    unfold inSt; rw [if_neg (by simp [hs])]; rfl
  exact ⟨r, us, rv', vs', mb', h1, by rw [hi]; exact h2, by rw [hi]; exact h3, h4⟩

/-- On the way of what is in turn. -/
def DrK (w W : World) (sb : Nat) (S3 : St) (rv0 : Value) (mb0 N : Nat) (x : Value) (g : Nat) : Prop :=
  ∃ (h : Int) (E : List (Int × List UInt8)) (os : List (List UInt8)) (us : List Value) (rv : Value) (vs : List Value) (mb : Nat), E.length ≤ g ∧ 0 ≤ h ∧ h ≤ 2147483647 ∧ (∀ p ∈ E, p.1 ≤ 2147483647 ∧ p.2.length ≤ 40000) ∧ Se W sb { S3 with have_ := h, early := E } rv vs mb N ∧ Bl W x us os ∧
    os.length + E.length ≤ S3.early.length ∧ Fr (SeM sb rv0 mb0) w W ∧ New w x ∧ (∀ k, SeM sb rv mb k → SeM sb rv0 mb0 k ∨ w.heap.size ≤ k) ∧
    drain S3.early.length S3.have_ S3.early = ((drain E.length h E).1, (drain E.length h E).2.1, os ++ (drain E.length h E).2.2)

theorem DrK.start {w W : World} {sb : Nat} {S3 : St} {fb : Nat} {F : Flds} {rv0 : Value} {mb0 N : Nat} (h : InR w W sb S3 fb F rv0 mb0 N) (hok : SOk S3) : DrK w W sb S3 rv0 mb0 N (.slice none 0 0) S3.early.length := by
  obtain ⟨rv, vs, mb, fv, h1, h2, h3, h4, h5⟩ := h
  exact ⟨S3.have_, S3.early, [], [], rv, vs, mb, Nat.le_refl _, hok.have_.1, hok.have_.2, hok.early, h1, Bl.nil _, by simp, h4, New.nil _ _ _, h5, by simp⟩

theorem Se.haved {W : World} {sb : Nat} {S : St} {rv : Value} {vs : List Value} {mb N : Nat} (h : Se W sb S rv vs mb N) (x : Int) : Se (W.setCell ⟨sb, 5, none⟩ (.int .i64 x)) sb { S with have_ := x } rv vs mb N :=
  h.reblk (heap_setCell h.blk 5 (.int .i64 x)) ((Fr.refl (fun q => q = sb) W).setCell (p := ⟨sb, 5, none⟩) (fun _ => rfl) _) rfl rfl

theorem Se.nty {W : World} {sb : Nat} {S : St} {rv : Value} {vs : List Value} {mb N q : Nat} {cs : Array Value} {fz : Nat × Nat} {ty : TypeId} (h : Se W sb S rv vs mb N) (hf : W.heap[q]? = some (.cells cs ty fz)) (h1 : ty ≠ 116) (h2 : ty ≠ 118) : ¬ SeM sb rv mb q := by
  rintro (rfl | hq | rfl)
  · rw [h.blk] at hf; injection hf with hf; injection hf with _ hf; exact h1 hf.symm
  · obtain ⟨cs', f', h'⟩ := h.row.tag q hq
    rw [h'] at hf; injection hf with hf; injection hf with _ hf; exact h2 hf.symm
  · obtain ⟨D, n, ⟨es, clock, hb, _⟩, _⟩ := h.em
    rw [hb] at hf; cases hf

theorem Se.notBl {W : World} {sb : Nat} {S : St} {rv : Value} {vs : List Value} {mb N : Nat} {v : Value} {us : List Value} {ls : List (List UInt8)} (h : Se W sb S rv vs mb N) (hb : Bl W v us ls) : ∀ q, v.ownBlock = some q → ¬ SeM sb rv mb q := by
  intro q hq
  obtain ⟨cs, f, h'⟩ := hb.own.tag q hq
  exact h.nty h' (by decide) (by decide)

/-- A round of what is in turn. -/
theorem DrK.next {w wr W5 W6a W7 : World} {sb : Nat} {S3 : St} {rv0 rv x x7 u : Value} {mb0 mb N g : Nat} {h : Int} {E : List (Int × List UInt8)} {os : List (List UInt8)} {us vs : List Value} {b : List UInt8} (hg : eget E (h + 1) = some b)
    (k : E.length ≤ g ∧ 0 ≤ h ∧ h ≤ 2147483647 ∧ ∀ p ∈ E, p.1 ≤ 2147483647 ∧ p.2.length ≤ 40000)
    (r : os.length + E.length ≤ S3.early.length ∧ Fr (SeM sb rv0 mb0) w wr.drew ∧ New w x ∧ (∀ k, SeM sb rv mb k → SeM sb rv0 mb0 k ∨ w.heap.size ≤ k) ∧ drain S3.early.length S3.have_ S3.early = ((drain E.length h E).1, (drain E.length h E).2.1, os ++ (drain E.length h E).2.2))
    (s5 : Se W5 sb { S3 with have_ := h + 1, early := edel E (h + 1) } rv vs mb N) (f5 : Fr (SeM sb rv mb) wr.drew W5) (fa : Fr F0 W5 W6a) (b5 : Bl W5 x us os)
    (b7 : Bl W7 x7 (us ++ [u]) (os ++ [b])) (g7 : W6a.grownBy W7 x.ownBlock) (e7 : ∀ q, x7.ownBlock = some q → x.ownBlock = some q ∨ W6a.heap.size ≤ q) :
    DrK w W7 sb S3 rv0 mb0 N x7 (g - 1) := by
  obtain ⟨k1, k2, k3, k4⟩ := k
  obtain ⟨r1, r2, r3, r4, r5⟩ := r
  have hl := edel_len hg
  have hm := k4 _ (eget_mem hg)
  have hd := drain_some hg E.length (Nat.le_refl _)
  have hf := Fr.of_grown g7
  have s6 := s5.keep0 fa
  refine ⟨h + 1, edel E (h + 1), os ++ [b], us ++ [u], rv, vs, mb, by omega, by omega, hm.1, fun p hp => k4 p (edel_sub p hp), s6.keep hf (fun q hq e => s6.notBl (b5.keep0 fa) q e hq) (b5.keep0 fa).nb, b7, by simp; omega,
    Fr.trans r2 (Fr.trans (S := fun q => SeM sb rv mb q ∨ w.heap.size ≤ q) (f5.mono fun _ _ e => .inl e) (Fr.trans (S := fun q => w.heap.size ≤ q) (fa.mono fun _ _ e => e.elim) hf (fun q _ e => r3 q e)) (fun q _ e => .inr e)) (fun q hq e => e.elim (fun e => (r4 q e).elim id (fun e => by omega)) (fun e => by omega)), fun q hq => ?_, r4, ?_⟩
  · rcases e7 q hq with e | e
    · exact r3 q e
    · have := r2.size; have := f5.size; have := fa.size; omega
  · rw [r5, hd]; simp

theorem wf64 {k : Int} (h : 0 ≤ k ∧ k ≤ 2147483648) : (Lit.int .i64 k).wf = true := by
  rw [Lit.wf_int_iff]
  simp only [IntKind.min, IntKind.max, IntKind.signed, IntKind.bits, if_true]
  omega

theorem EM.keep0 {W W' : World} {mb N : Nat} {E : List (Int × List UInt8)} (h : EM W mb E N) (f : Fr F0 W W') : EM W' mb E N := h.keep f (fun e => e) (NB.F0 W)

set_option maxRecDepth 100000 in
set_option maxHeartbeats 1600000 in
theorem in_none (p : Option Addr) (v : Value) (l : List UInt8) (now : Int) (w : World) (hr : Rd w v l) (hl : l.length ≤ 35184372088832) (ho : rdF l = none) :
    Calls Try.prog 51 #[.pointer p, v, .int .i64 now] w fun e w' => e = .returned (.tuple #[.slice none 0 0, .int .i64 2]) ∧ Fr F0 w w' := by
  have HR := hid hr
  have HL := hid hl
  have HO := hid ho
  clear hr hl ho
  go_enter Try.func51, Try.ntmps51
  go_wp2_with fail
  refine (read_none v l _ HR.out HL.out HO.out).mono ?_
  rintro e w1 ⟨a, b, c, d, u, n, rfl, h1, f1⟩
  obtain ⟨ua, uc, rfl, _⟩ := h1.form
  have F1 := hid f1
  clear h1 f1
  go_wp2_with fail
  go_ret2
  exact ⟨rfl, F1.out.alloc _⟩

set_option maxRecDepth 100000 in
set_option maxHeartbeats 6400000 in
theorem in_some (sb : Nat) (S : St) (rv : Value) (vs : List Value) (mb N : Nat) (v : Value) (l : List UInt8) (now : Int) (w : World) (F : Flds) (h : Se w sb S rv vs mb N) (hok : SOk S) (hr : Rd w v l) (hl : l.length ≤ 35184372088832) (ho : rdF l = some F) (hN : N < 1000000) :
    Calls Try.prog 51 #[.pointer (some ⟨sb, 0, none⟩), v, .int .i64 now] w fun e w' => InTo w sb S rv mb N (some F) e w' := by
  have H := hid h
  have HOK := hid hok
  have HR := hid hr
  have HL := hid hl
  have HO := hid ho
  have HFB := hid (rdF_b ho)
  have HNN := hid hN
  clear h hok hr hl ho hN
  go_enter Try.func51, Try.ntmps51
  go_wp2_with fail
  refine (read_some v l F _ HR.out HL.out HO.out).mono ?_
  rintro e w1 ⟨u, rfl, h1, f1⟩
  obtain ⟨ua, uc, rfl⟩ := h1.form
  have HA : Hid (InR w (w1.alloc (.cells #[.int .i64 (F.epoch : Int), .int .i64 (F.known : Int), .int .i64 (F.seq : Int), .int .i64 (F.ack : Int), .slice ua F.b.length uc] 121)) sb S w1.heap.size F rv mb N) :=
    hid ⟨rv, vs, mb, _, H.out.keep0 (f1.alloc _), heap_alloc_last _ _, h1.keep0 ((Fr.refl F0 w1).alloc _), (f1.alloc _).mono (fun _ _ e => e.elim), fun k hk => .inl hk⟩
  obtain ⟨fb, HFB2⟩ : ∃ fb, Hid (w1.heap.size = fb) := ⟨_, hid rfl⟩
  clear h1 f1
  go_upto_block 0 with fail
  rw [HFB2.out] at HA ⊢
  generalize w1.alloc _ = W1 at *
  clear HFB2
  have HB : Hid (0 ≤ (F.epoch : Int) ∧ 0 ≤ (F.known : Int)) := hid ⟨by omega, by omega⟩
  go_cut [6, 7] (fun x y wx => x = .slice none 0 0 ∧ y = .int .i64 0 ∧ Hid (stale S F = false ∧ InR w wx sb (metSt S F) fb F rv mb N))
  case first =>
    obtain ⟨rv1, vs1, mb1, fv, g1, g2, g3, g4, g5⟩ := HA.out
    have H1 := hid g1
    have HC := hid (And.intro g2 (And.intro g3 (And.intro g4 g5)))
    have c0 : W1.cell? ⟨sb, 0, none⟩ = some (.int .i64 S.epoch) := by rw [cell_at g1.blk]; rfl
    have c4 : W1.cell? ⟨sb, 4, none⟩ = some (.int .i64 S.peer) := by rw [cell_at g1.blk]; rfl
    have d0 : W1.cell? ⟨fb, 0, none⟩ = some (.int .i64 (F.epoch : Int)) := by rw [cell_at g2]; rfl
    have d1 : W1.cell? ⟨fb, 1, none⟩ = some (.int .i64 (F.known : Int)) := by rw [cell_at g2]; rfl
    clear g1 g2 g3 g4 g5
    by_cases h1 : (F.epoch : Int) < S.peer
    · go_wp2_with fail
      go_quiet (fail)
      go_wp2_with fail
      go_ret2
      exact InTo.stale (HA.out.keep0 ((Fr.refl _ _).drewN _)) (stale_lt h1) rfl
    · have b1 : decide ((F.epoch : Int) < S.peer) = false := decide_eq_false h1
      have H1n := hid h1
      clear h1
      by_cases h2 : (F.known : Int) = 0
      · have b2 : ((F.known : Int) != 0) = false := by simpa using h2
        have H2 := hid h2
        clear h2
        go_upto_region 6 with fail
        refine pz_start [] (fun w' => w'.heap = W1.heap) (by kernel_rfl) ?_
        have hS0 : W1.drew.heap = W1.heap := rfl
        have q0 : ∀ w' : World, w'.heap = W1.heap → w'.cell? ⟨sb, 0, none⟩ = some (.int .i64 S.epoch) := fun w' f => by rw [World.cell?_of_block (w := W1) (by rw [f])]; exact c0
        have q4 : ∀ w' : World, w'.heap = W1.heap → w'.cell? ⟨sb, 4, none⟩ = some (.int .i64 S.peer) := fun w' f => by rw [World.cell?_of_block (w := W1) (by rw [f])]; exact c4
        have r0 : ∀ w' : World, w'.heap = W1.heap → w'.cell? ⟨fb, 0, none⟩ = some (.int .i64 (F.epoch : Int)) := fun w' f => by rw [World.cell?_of_block (w := W1) (by rw [f])]; exact d0
        have r1 : ∀ w' : World, w'.heap = W1.heap → w'.cell? ⟨fb, 1, none⟩ = some (.int .i64 (F.known : Int)) := fun w' f => by rw [World.cell?_of_block (w := W1) (by rw [f])]; exact d1
        refine pz_take 0 (v := ?_) [] rfl (by kernel_rfl) (by kernel_rfl) (by kernel_rfl) (by kernel_rfl) (fun _ _ _ h => h) (by rfl) hS0 (fun w' hS' => ?_) ?_
        rotate_left
        · (try dsimp only at hS'); go_simp
          try with_reducible rfl
        simp only [Act.put, List.setIfInBounds_toArray, List.set_cons_zero, List.set_cons_succ]
        refine pz_take 2 (v := ?_) [] rfl (by kernel_rfl) (by kernel_rfl) (by kernel_rfl) (by kernel_rfl) (fun _ _ _ h => h) (by rfl) hS0 (fun w' hS' => ?_) ?_
        rotate_left
        · (try dsimp only at hS'); go_simp
          try with_reducible rfl
        simp only [Act.put, List.setIfInBounds_toArray, List.set_cons_zero, List.set_cons_succ]
        refine pz_take 1 (v := ?_) [] rfl (by kernel_rfl) (by kernel_rfl) (by kernel_rfl) (by kernel_rfl) (fun _ _ _ h => h) (by rfl) hS0 (fun w' hS' => ?_) ?_
        rotate_left
        · (try dsimp only at hS'); go_simp
          try with_reducible rfl
        simp only [Act.put, List.setIfInBounds_toArray, List.set_cons_zero, List.set_cons_succ]
        refine pz_take 3 (v := ?_) [] rfl (by kernel_rfl) (by kernel_rfl) (by kernel_rfl) (by kernel_rfl) (fun _ _ _ h => h) (by rfl) hS0 (fun w' hS' => ?_) ?_
        rotate_left
        · (try dsimp only at hS'); go_simp
          try with_reducible rfl
        simp only [Act.put, List.setIfInBounds_toArray, List.set_cons_zero, List.set_cons_succ]
        refine pz_take 4 (v := ?_) [] rfl (by kernel_rfl) (by kernel_rfl) (by kernel_rfl) (by kernel_rfl) (fun _ _ _ h => h) (by rfl) hS0 (fun w' hS' => ?_) ?_
        rotate_left
        · (try dsimp only at hS'); go_simp
          try with_reducible rfl
        simp only [Act.put, List.setIfInBounds_toArray, List.set_cons_zero, List.set_cons_succ]
        refine pz_take 5 (v := ?_) [] rfl (by kernel_rfl) (by kernel_rfl) (by kernel_rfl) (by kernel_rfl) (fun _ _ _ h => h) (by rfl) hS0 (fun w' hS' => ?_) ?_
        rotate_left
        · (try dsimp only at hS'); go_simp
          try with_reducible rfl
        simp only [Act.put, List.setIfInBounds_toArray, List.set_cons_zero, List.set_cons_succ]
        refine pz_take 6 (v := ?_) [] rfl (by kernel_rfl) (by kernel_rfl) (by kernel_rfl) (by kernel_rfl) (fun _ _ _ h => h) (by rfl) hS0 (fun w' hS' => ?_) ?_
        rotate_left
        · (try dsimp only at hS'); go_simp
          try with_reducible rfl
        simp only [Act.put, List.setIfInBounds_toArray, List.set_cons_zero, List.set_cons_succ]
        refine pz_take 7 (v := ?_) [] rfl (by kernel_rfl) (by kernel_rfl) (by kernel_rfl) (by kernel_rfl) (fun _ _ _ h => h) (by rfl) hS0 (fun w' hS' => ?_) ?_
        rotate_left
        · (try dsimp only at hS'); go_simp
          try with_reducible rfl
        simp only [Act.put, List.setIfInBounds_toArray, List.set_cons_zero, List.set_cons_succ]
        refine pz_take 8 (v := ?_) [] rfl (by kernel_rfl) (by kernel_rfl) (by kernel_rfl) (by kernel_rfl) (fun _ _ _ h => h) (by rfl) hS0 (fun w' hS' => ?_) ?_
        rotate_left
        · (try dsimp only at hS'); go_simp
          try with_reducible rfl
        simp only [Act.put, List.setIfInBounds_toArray, List.set_cons_zero, List.set_cons_succ]
        refine pz_take 9 (v := ?_) [] rfl (by kernel_rfl) (by kernel_rfl) (by kernel_rfl) (by kernel_rfl) (fun _ _ _ h => h) (by rfl) hS0 (fun w' hS' => ?_) ?_
        rotate_left
        · (try dsimp only at hS'); go_simp
          try with_reducible rfl
        simp only [Act.put, List.setIfInBounds_toArray, List.set_cons_zero, List.set_cons_succ]
        refine pz_take 10 (v := ?_) [] rfl (by kernel_rfl) (by kernel_rfl) (by kernel_rfl) (by kernel_rfl) (fun _ _ _ h => h) (by rfl) hS0 (fun w' hS' => ?_) ?_
        rotate_left
        · (try dsimp only at hS'); go_simp
          try with_reducible rfl
        simp only [Act.put, List.setIfInBounds_toArray, List.set_cons_zero, List.set_cons_succ]
        refine pz_take 11 (v := ?_) [] rfl (by kernel_rfl) (by kernel_rfl) (by kernel_rfl) (by kernel_rfl) (fun _ _ _ h => h) (by rfl) hS0 (fun w' hS' => ?_) ?_
        rotate_left
        · (try dsimp only at hS'); go_simp
          try with_reducible rfl
        simp only [Act.put, List.setIfInBounds_toArray, List.set_cons_zero, List.set_cons_succ]
        refine pz_skip 12 [] rfl (by kernel_rfl) (by kernel_rfl) (by kernel_rfl) (by kernel_rfl) (fun _ _ _ h => h) (by rfl) hS0 ?_
        simp only [Act.put, List.setIfInBounds_toArray, List.set_cons_zero, List.set_cons_succ]
        refine pz_skip 14 [] rfl (by kernel_rfl) (by kernel_rfl) (by kernel_rfl) (by kernel_rfl) (fun _ _ _ h => h) (by rfl) hS0 ?_
        simp only [Act.put, List.setIfInBounds_toArray, List.set_cons_zero, List.set_cons_succ]
        refine pz_skip 13 [] rfl (by kernel_rfl) (by kernel_rfl) (by kernel_rfl) (by kernel_rfl) (fun _ _ _ h => h) (by rfl) hS0 ?_
        simp only [Act.put, List.setIfInBounds_toArray, List.set_cons_zero, List.set_cons_succ]
        refine pz_skip 15 [] rfl (by kernel_rfl) (by kernel_rfl) (by kernel_rfl) (by kernel_rfl) (fun _ _ _ h => h) (by rfl) hS0 ?_
        simp only [Act.put, List.setIfInBounds_toArray, List.set_cons_zero, List.set_cons_succ]
        refine pz_skip 16 [] rfl (by kernel_rfl) (by kernel_rfl) (by kernel_rfl) (by kernel_rfl) (fun _ _ _ h => h) (by rfl) hS0 ?_
        simp only [Act.put, List.setIfInBounds_toArray, List.set_cons_zero, List.set_cons_succ]
        refine pz_skip 17 [] rfl (by kernel_rfl) (by kernel_rfl) (by kernel_rfl) (by kernel_rfl) (fun _ _ _ h => h) (by rfl) hS0 ?_
        simp only [Act.put, List.setIfInBounds_toArray, List.set_cons_zero, List.set_cons_succ]
        refine pz_skip 18 [] rfl (by kernel_rfl) (by kernel_rfl) (by kernel_rfl) (by kernel_rfl) (fun _ _ _ h => h) (by rfl) hS0 ?_
        simp only [Act.put, List.setIfInBounds_toArray, List.set_cons_zero, List.set_cons_succ]
        refine pz_take 19 (v := ?_) [] rfl (by kernel_rfl) (by kernel_rfl) (by kernel_rfl) (by kernel_rfl) (fun _ _ _ h => h) (by rfl) hS0 (fun w' hS' => ?_) ?_
        rotate_left
        · (try dsimp only at hS'); go_simp
          try with_reducible rfl
        simp only [Act.put, List.setIfInBounds_toArray, List.set_cons_zero, List.set_cons_succ]
        refine pz_take 20 (v := ?_) [] rfl (by kernel_rfl) (by kernel_rfl) (by kernel_rfl) (by kernel_rfl) (fun _ _ _ h => h) (by rfl) hS0 (fun w' hS' => ?_) ?_
        rotate_left
        · (try dsimp only at hS'); go_simp
          try with_reducible rfl
        simp only [Act.put, List.setIfInBounds_toArray, List.set_cons_zero, List.set_cons_succ]
        refine pz_take 21 (v := ?_) [] rfl (by kernel_rfl) (by kernel_rfl) (by kernel_rfl) (by kernel_rfl) (fun _ _ _ h => h) (by rfl) hS0 (fun w' hS' => ?_) ?_
        rotate_left
        · (try dsimp only at hS'); go_simp
          try with_reducible rfl
        simp only [Act.put, List.setIfInBounds_toArray, List.set_cons_zero, List.set_cons_succ]
        refine pz_done (by kernel_rfl) ?_ _
        clear hS0 q0 q4 r0 r1
        go_wp2_with fail
        go_quiet (fail)
        by_cases h3 : S.peer < (F.epoch : Int)
        · go_wp2_with fail
          have HA3 := hid (fun q => (HA.out.keep0 ((Fr.refl F0 W1).drewN q)))
          refine (meets_c sb S F.epoch rv1 vs1 mb1 N _ (H1.out.keep0 ((Fr.refl _ _).drewN _)) HOK.out.len).mono ?_
          rintro e W2 ⟨mb2, rfl, s2, f2, g2⟩
          have HR2 := hid (InR.write (H1.out.keep0 ((Fr.refl F0 W1).drewN _)) (((Fr.refl F0 W1).drewN _).heap HC.out.1 (fun e => e)) (HC.out.2.1.keep0 ((Fr.refl F0 W1).drewN _)) (HC.out.2.2.1.drewN _) HC.out.2.2.2 s2 f2 (fun k hk => hk.elim (fun e => .inl (.inl e)) (fun hk => hk.elim (fun e => .inl (.inr (.inl e))) (fun e => .inr (by rw [e]; exact g2)))))
          clear s2 f2 g2
          go_wp2_with fail
          go_meet
          case rel => exact ⟨rfl, rfl, hid ⟨stale_no (by have := H1n.out; omega) (.inl H2.out), by unfold metSt; rw [if_pos h3]; exact HR2.out.weak⟩⟩
        · go_wp2_with fail
          go_meet
          case rel => exact ⟨rfl, rfl, hid ⟨stale_no (by have := H1n.out; omega) (.inl H2.out), InR.met HA.out (by omega) ((Fr.refl _ _).drewN _)⟩⟩
      · have b2 : ((F.known : Int) != 0) = true := by simpa using h2
        have H2 := hid h2
        clear h2
        by_cases h4 : (F.known : Int) = S.epoch
        · have b3 : ((F.known : Int) != S.epoch) = false := by simpa using h4
          have H4 := hid h4
          clear h4
          go_upto_region 6 with fail
          refine pz_start [] (fun w' => w'.heap = W1.heap) (by kernel_rfl) ?_
          have hS0 : W1.drew.heap = W1.heap := rfl
          have q0 : ∀ w' : World, w'.heap = W1.heap → w'.cell? ⟨sb, 0, none⟩ = some (.int .i64 S.epoch) := fun w' f => by rw [World.cell?_of_block (w := W1) (by rw [f])]; exact c0
          have q4 : ∀ w' : World, w'.heap = W1.heap → w'.cell? ⟨sb, 4, none⟩ = some (.int .i64 S.peer) := fun w' f => by rw [World.cell?_of_block (w := W1) (by rw [f])]; exact c4
          have r0 : ∀ w' : World, w'.heap = W1.heap → w'.cell? ⟨fb, 0, none⟩ = some (.int .i64 (F.epoch : Int)) := fun w' f => by rw [World.cell?_of_block (w := W1) (by rw [f])]; exact d0
          have r1 : ∀ w' : World, w'.heap = W1.heap → w'.cell? ⟨fb, 1, none⟩ = some (.int .i64 (F.known : Int)) := fun w' f => by rw [World.cell?_of_block (w := W1) (by rw [f])]; exact d1
          refine pz_take 0 (v := ?_) [] rfl (by kernel_rfl) (by kernel_rfl) (by kernel_rfl) (by kernel_rfl) (fun _ _ _ h => h) (by rfl) hS0 (fun w' hS' => ?_) ?_
          rotate_left
          · (try dsimp only at hS'); go_simp
            try with_reducible rfl
          simp only [Act.put, List.setIfInBounds_toArray, List.set_cons_zero, List.set_cons_succ]
          refine pz_take 2 (v := ?_) [] rfl (by kernel_rfl) (by kernel_rfl) (by kernel_rfl) (by kernel_rfl) (fun _ _ _ h => h) (by rfl) hS0 (fun w' hS' => ?_) ?_
          rotate_left
          · (try dsimp only at hS'); go_simp
            try with_reducible rfl
          simp only [Act.put, List.setIfInBounds_toArray, List.set_cons_zero, List.set_cons_succ]
          refine pz_take 1 (v := ?_) [] rfl (by kernel_rfl) (by kernel_rfl) (by kernel_rfl) (by kernel_rfl) (fun _ _ _ h => h) (by rfl) hS0 (fun w' hS' => ?_) ?_
          rotate_left
          · (try dsimp only at hS'); go_simp
            try with_reducible rfl
          simp only [Act.put, List.setIfInBounds_toArray, List.set_cons_zero, List.set_cons_succ]
          refine pz_take 3 (v := ?_) [] rfl (by kernel_rfl) (by kernel_rfl) (by kernel_rfl) (by kernel_rfl) (fun _ _ _ h => h) (by rfl) hS0 (fun w' hS' => ?_) ?_
          rotate_left
          · (try dsimp only at hS'); go_simp
            try with_reducible rfl
          simp only [Act.put, List.setIfInBounds_toArray, List.set_cons_zero, List.set_cons_succ]
          refine pz_take 4 (v := ?_) [] rfl (by kernel_rfl) (by kernel_rfl) (by kernel_rfl) (by kernel_rfl) (fun _ _ _ h => h) (by rfl) hS0 (fun w' hS' => ?_) ?_
          rotate_left
          · (try dsimp only at hS'); go_simp
            try with_reducible rfl
          simp only [Act.put, List.setIfInBounds_toArray, List.set_cons_zero, List.set_cons_succ]
          refine pz_take 5 (v := ?_) [] rfl (by kernel_rfl) (by kernel_rfl) (by kernel_rfl) (by kernel_rfl) (fun _ _ _ h => h) (by rfl) hS0 (fun w' hS' => ?_) ?_
          rotate_left
          · (try dsimp only at hS'); go_simp
            try with_reducible rfl
          simp only [Act.put, List.setIfInBounds_toArray, List.set_cons_zero, List.set_cons_succ]
          refine pz_take 6 (v := ?_) [] rfl (by kernel_rfl) (by kernel_rfl) (by kernel_rfl) (by kernel_rfl) (fun _ _ _ h => h) (by rfl) hS0 (fun w' hS' => ?_) ?_
          rotate_left
          · (try dsimp only at hS'); go_simp
            try with_reducible rfl
          simp only [Act.put, List.setIfInBounds_toArray, List.set_cons_zero, List.set_cons_succ]
          refine pz_take 7 (v := ?_) [] rfl (by kernel_rfl) (by kernel_rfl) (by kernel_rfl) (by kernel_rfl) (fun _ _ _ h => h) (by rfl) hS0 (fun w' hS' => ?_) ?_
          rotate_left
          · (try dsimp only at hS'); go_simp
            try with_reducible rfl
          simp only [Act.put, List.setIfInBounds_toArray, List.set_cons_zero, List.set_cons_succ]
          refine pz_take 8 (v := ?_) [] rfl (by kernel_rfl) (by kernel_rfl) (by kernel_rfl) (by kernel_rfl) (fun _ _ _ h => h) (by rfl) hS0 (fun w' hS' => ?_) ?_
          rotate_left
          · (try dsimp only at hS'); go_simp
            try with_reducible rfl
          simp only [Act.put, List.setIfInBounds_toArray, List.set_cons_zero, List.set_cons_succ]
          refine pz_take 9 (v := ?_) [] rfl (by kernel_rfl) (by kernel_rfl) (by kernel_rfl) (by kernel_rfl) (fun _ _ _ h => h) (by rfl) hS0 (fun w' hS' => ?_) ?_
          rotate_left
          · (try dsimp only at hS'); go_simp
            try with_reducible rfl
          simp only [Act.put, List.setIfInBounds_toArray, List.set_cons_zero, List.set_cons_succ]
          refine pz_take 10 (v := ?_) [] rfl (by kernel_rfl) (by kernel_rfl) (by kernel_rfl) (by kernel_rfl) (fun _ _ _ h => h) (by rfl) hS0 (fun w' hS' => ?_) ?_
          rotate_left
          · (try dsimp only at hS'); go_simp
            try with_reducible rfl
          simp only [Act.put, List.setIfInBounds_toArray, List.set_cons_zero, List.set_cons_succ]
          refine pz_take 11 (v := ?_) [] rfl (by kernel_rfl) (by kernel_rfl) (by kernel_rfl) (by kernel_rfl) (fun _ _ _ h => h) (by rfl) hS0 (fun w' hS' => ?_) ?_
          rotate_left
          · (try dsimp only at hS'); go_simp
            try with_reducible rfl
          simp only [Act.put, List.setIfInBounds_toArray, List.set_cons_zero, List.set_cons_succ]
          refine pz_take 12 (v := ?_) [] rfl (by kernel_rfl) (by kernel_rfl) (by kernel_rfl) (by kernel_rfl) (fun _ _ _ h => h) (by rfl) hS0 (fun w' hS' => ?_) ?_
          rotate_left
          · (try dsimp only at hS'); go_simp
            try with_reducible rfl
          simp only [Act.put, List.setIfInBounds_toArray, List.set_cons_zero, List.set_cons_succ]
          refine pz_take 14 (v := ?_) [] rfl (by kernel_rfl) (by kernel_rfl) (by kernel_rfl) (by kernel_rfl) (fun _ _ _ h => h) (by rfl) hS0 (fun w' hS' => ?_) ?_
          rotate_left
          · (try dsimp only at hS'); go_simp
            try with_reducible rfl
          simp only [Act.put, List.setIfInBounds_toArray, List.set_cons_zero, List.set_cons_succ]
          refine pz_take 13 (v := ?_) [] rfl (by kernel_rfl) (by kernel_rfl) (by kernel_rfl) (by kernel_rfl) (fun _ _ _ h => h) (by rfl) hS0 (fun w' hS' => ?_) ?_
          rotate_left
          · (try dsimp only at hS'); go_simp
            try with_reducible rfl
          simp only [Act.put, List.setIfInBounds_toArray, List.set_cons_zero, List.set_cons_succ]
          refine pz_take 15 (v := ?_) [] rfl (by kernel_rfl) (by kernel_rfl) (by kernel_rfl) (by kernel_rfl) (fun _ _ _ h => h) (by rfl) hS0 (fun w' hS' => ?_) ?_
          rotate_left
          · (try dsimp only at hS'); go_simp
            try with_reducible rfl
          simp only [Act.put, List.setIfInBounds_toArray, List.set_cons_zero, List.set_cons_succ]
          refine pz_take 16 (v := ?_) [] rfl (by kernel_rfl) (by kernel_rfl) (by kernel_rfl) (by kernel_rfl) (fun _ _ _ h => h) (by rfl) hS0 (fun w' hS' => ?_) ?_
          rotate_left
          · (try dsimp only at hS'); go_simp
            try with_reducible rfl
          simp only [Act.put, List.setIfInBounds_toArray, List.set_cons_zero, List.set_cons_succ]
          refine pz_take 17 (v := ?_) [] rfl (by kernel_rfl) (by kernel_rfl) (by kernel_rfl) (by kernel_rfl) (fun _ _ _ h => h) (by rfl) hS0 (fun w' hS' => ?_) ?_
          rotate_left
          · (try dsimp only at hS'); go_simp
            try with_reducible rfl
          simp only [Act.put, List.setIfInBounds_toArray, List.set_cons_zero, List.set_cons_succ]
          refine pz_take 18 (v := ?_) [] rfl (by kernel_rfl) (by kernel_rfl) (by kernel_rfl) (by kernel_rfl) (fun _ _ _ h => h) (by rfl) hS0 (fun w' hS' => ?_) ?_
          rotate_left
          · (try dsimp only at hS'); go_simp
            try with_reducible rfl
          simp only [Act.put, List.setIfInBounds_toArray, List.set_cons_zero, List.set_cons_succ]
          refine pz_take 19 (v := ?_) [] rfl (by kernel_rfl) (by kernel_rfl) (by kernel_rfl) (by kernel_rfl) (fun _ _ _ h => h) (by rfl) hS0 (fun w' hS' => ?_) ?_
          rotate_left
          · (try dsimp only at hS'); go_simp
            try with_reducible rfl
          simp only [Act.put, List.setIfInBounds_toArray, List.set_cons_zero, List.set_cons_succ]
          refine pz_take 20 (v := ?_) [] rfl (by kernel_rfl) (by kernel_rfl) (by kernel_rfl) (by kernel_rfl) (fun _ _ _ h => h) (by rfl) hS0 (fun w' hS' => ?_) ?_
          rotate_left
          · (try dsimp only at hS'); go_simp
            try with_reducible rfl
          simp only [Act.put, List.setIfInBounds_toArray, List.set_cons_zero, List.set_cons_succ]
          refine pz_take 21 (v := ?_) [] rfl (by kernel_rfl) (by kernel_rfl) (by kernel_rfl) (by kernel_rfl) (fun _ _ _ h => h) (by rfl) hS0 (fun w' hS' => ?_) ?_
          rotate_left
          · (try dsimp only at hS'); go_simp
            try with_reducible rfl
          simp only [Act.put, List.setIfInBounds_toArray, List.set_cons_zero, List.set_cons_succ]
          refine pz_done (by kernel_rfl) ?_ _
          clear hS0 q0 q4 r0 r1
          go_wp2_with fail
          go_quiet (fail)
          by_cases h3 : S.peer < (F.epoch : Int)
          · go_wp2_with fail
            have HA3 := hid (fun q => (HA.out.keep0 ((Fr.refl F0 W1).drewN q)))
            refine (meets_c sb S F.epoch rv1 vs1 mb1 N _ (H1.out.keep0 ((Fr.refl _ _).drewN _)) HOK.out.len).mono ?_
            rintro e W2 ⟨mb2, rfl, s2, f2, g2⟩
            have HR2 := hid (InR.write (H1.out.keep0 ((Fr.refl F0 W1).drewN _)) (((Fr.refl F0 W1).drewN _).heap HC.out.1 (fun e => e)) (HC.out.2.1.keep0 ((Fr.refl F0 W1).drewN _)) (HC.out.2.2.1.drewN _) HC.out.2.2.2 s2 f2 (fun k hk => hk.elim (fun e => .inl (.inl e)) (fun hk => hk.elim (fun e => .inl (.inr (.inl e))) (fun e => .inr (by rw [e]; exact g2)))))
            clear s2 f2 g2
            go_wp2_with fail
            go_meet
            case rel => exact ⟨rfl, rfl, hid ⟨stale_no (by have := H1n.out; omega) (.inr H4.out), by unfold metSt; rw [if_pos h3]; exact HR2.out.weak⟩⟩
          · go_wp2_with fail
            go_meet
            case rel => exact ⟨rfl, rfl, hid ⟨stale_no (by have := H1n.out; omega) (.inr H4.out), InR.met HA.out (by omega) ((Fr.refl _ _).drewN _)⟩⟩
        · have b3 : ((F.known : Int) != S.epoch) = true := by simpa using h4
          go_upto_region 6 with fail
          refine pz_start [] (fun w' => w'.heap = W1.heap) (by kernel_rfl) ?_
          have hS0 : W1.drew.heap = W1.heap := rfl
          have q0 : ∀ w' : World, w'.heap = W1.heap → w'.cell? ⟨sb, 0, none⟩ = some (.int .i64 S.epoch) := fun w' f => by rw [World.cell?_of_block (w := W1) (by rw [f])]; exact c0
          have q4 : ∀ w' : World, w'.heap = W1.heap → w'.cell? ⟨sb, 4, none⟩ = some (.int .i64 S.peer) := fun w' f => by rw [World.cell?_of_block (w := W1) (by rw [f])]; exact c4
          have r0 : ∀ w' : World, w'.heap = W1.heap → w'.cell? ⟨fb, 0, none⟩ = some (.int .i64 (F.epoch : Int)) := fun w' f => by rw [World.cell?_of_block (w := W1) (by rw [f])]; exact d0
          have r1 : ∀ w' : World, w'.heap = W1.heap → w'.cell? ⟨fb, 1, none⟩ = some (.int .i64 (F.known : Int)) := fun w' f => by rw [World.cell?_of_block (w := W1) (by rw [f])]; exact d1
          refine pz_take 0 (v := ?_) [] rfl (by kernel_rfl) (by kernel_rfl) (by kernel_rfl) (by kernel_rfl) (fun _ _ _ h => h) (by rfl) hS0 (fun w' hS' => ?_) ?_
          rotate_left
          · (try dsimp only at hS'); go_simp
            try with_reducible rfl
          simp only [Act.put, List.setIfInBounds_toArray, List.set_cons_zero, List.set_cons_succ]
          refine pz_take 2 (v := ?_) [] rfl (by kernel_rfl) (by kernel_rfl) (by kernel_rfl) (by kernel_rfl) (fun _ _ _ h => h) (by rfl) hS0 (fun w' hS' => ?_) ?_
          rotate_left
          · (try dsimp only at hS'); go_simp
            try with_reducible rfl
          simp only [Act.put, List.setIfInBounds_toArray, List.set_cons_zero, List.set_cons_succ]
          refine pz_take 1 (v := ?_) [] rfl (by kernel_rfl) (by kernel_rfl) (by kernel_rfl) (by kernel_rfl) (fun _ _ _ h => h) (by rfl) hS0 (fun w' hS' => ?_) ?_
          rotate_left
          · (try dsimp only at hS'); go_simp
            try with_reducible rfl
          simp only [Act.put, List.setIfInBounds_toArray, List.set_cons_zero, List.set_cons_succ]
          refine pz_take 3 (v := ?_) [] rfl (by kernel_rfl) (by kernel_rfl) (by kernel_rfl) (by kernel_rfl) (fun _ _ _ h => h) (by rfl) hS0 (fun w' hS' => ?_) ?_
          rotate_left
          · (try dsimp only at hS'); go_simp
            try with_reducible rfl
          simp only [Act.put, List.setIfInBounds_toArray, List.set_cons_zero, List.set_cons_succ]
          refine pz_take 4 (v := ?_) [] rfl (by kernel_rfl) (by kernel_rfl) (by kernel_rfl) (by kernel_rfl) (fun _ _ _ h => h) (by rfl) hS0 (fun w' hS' => ?_) ?_
          rotate_left
          · (try dsimp only at hS'); go_simp
            try with_reducible rfl
          simp only [Act.put, List.setIfInBounds_toArray, List.set_cons_zero, List.set_cons_succ]
          refine pz_take 5 (v := ?_) [] rfl (by kernel_rfl) (by kernel_rfl) (by kernel_rfl) (by kernel_rfl) (fun _ _ _ h => h) (by rfl) hS0 (fun w' hS' => ?_) ?_
          rotate_left
          · (try dsimp only at hS'); go_simp
            try with_reducible rfl
          simp only [Act.put, List.setIfInBounds_toArray, List.set_cons_zero, List.set_cons_succ]
          refine pz_take 6 (v := ?_) [] rfl (by kernel_rfl) (by kernel_rfl) (by kernel_rfl) (by kernel_rfl) (fun _ _ _ h => h) (by rfl) hS0 (fun w' hS' => ?_) ?_
          rotate_left
          · (try dsimp only at hS'); go_simp
            try with_reducible rfl
          simp only [Act.put, List.setIfInBounds_toArray, List.set_cons_zero, List.set_cons_succ]
          refine pz_take 7 (v := ?_) [] rfl (by kernel_rfl) (by kernel_rfl) (by kernel_rfl) (by kernel_rfl) (fun _ _ _ h => h) (by rfl) hS0 (fun w' hS' => ?_) ?_
          rotate_left
          · (try dsimp only at hS'); go_simp
            try with_reducible rfl
          simp only [Act.put, List.setIfInBounds_toArray, List.set_cons_zero, List.set_cons_succ]
          refine pz_take 8 (v := ?_) [] rfl (by kernel_rfl) (by kernel_rfl) (by kernel_rfl) (by kernel_rfl) (fun _ _ _ h => h) (by rfl) hS0 (fun w' hS' => ?_) ?_
          rotate_left
          · (try dsimp only at hS'); go_simp
            try with_reducible rfl
          simp only [Act.put, List.setIfInBounds_toArray, List.set_cons_zero, List.set_cons_succ]
          refine pz_take 9 (v := ?_) [] rfl (by kernel_rfl) (by kernel_rfl) (by kernel_rfl) (by kernel_rfl) (fun _ _ _ h => h) (by rfl) hS0 (fun w' hS' => ?_) ?_
          rotate_left
          · (try dsimp only at hS'); go_simp
            try with_reducible rfl
          simp only [Act.put, List.setIfInBounds_toArray, List.set_cons_zero, List.set_cons_succ]
          refine pz_take 10 (v := ?_) [] rfl (by kernel_rfl) (by kernel_rfl) (by kernel_rfl) (by kernel_rfl) (fun _ _ _ h => h) (by rfl) hS0 (fun w' hS' => ?_) ?_
          rotate_left
          · (try dsimp only at hS'); go_simp
            try with_reducible rfl
          simp only [Act.put, List.setIfInBounds_toArray, List.set_cons_zero, List.set_cons_succ]
          refine pz_take 11 (v := ?_) [] rfl (by kernel_rfl) (by kernel_rfl) (by kernel_rfl) (by kernel_rfl) (fun _ _ _ h => h) (by rfl) hS0 (fun w' hS' => ?_) ?_
          rotate_left
          · (try dsimp only at hS'); go_simp
            try with_reducible rfl
          simp only [Act.put, List.setIfInBounds_toArray, List.set_cons_zero, List.set_cons_succ]
          refine pz_take 12 (v := ?_) [] rfl (by kernel_rfl) (by kernel_rfl) (by kernel_rfl) (by kernel_rfl) (fun _ _ _ h => h) (by rfl) hS0 (fun w' hS' => ?_) ?_
          rotate_left
          · (try dsimp only at hS'); go_simp
            try with_reducible rfl
          simp only [Act.put, List.setIfInBounds_toArray, List.set_cons_zero, List.set_cons_succ]
          refine pz_take 14 (v := ?_) [] rfl (by kernel_rfl) (by kernel_rfl) (by kernel_rfl) (by kernel_rfl) (fun _ _ _ h => h) (by rfl) hS0 (fun w' hS' => ?_) ?_
          rotate_left
          · (try dsimp only at hS'); go_simp
            try with_reducible rfl
          simp only [Act.put, List.setIfInBounds_toArray, List.set_cons_zero, List.set_cons_succ]
          refine pz_take 13 (v := ?_) [] rfl (by kernel_rfl) (by kernel_rfl) (by kernel_rfl) (by kernel_rfl) (fun _ _ _ h => h) (by rfl) hS0 (fun w' hS' => ?_) ?_
          rotate_left
          · (try dsimp only at hS'); go_simp
            try with_reducible rfl
          simp only [Act.put, List.setIfInBounds_toArray, List.set_cons_zero, List.set_cons_succ]
          refine pz_take 15 (v := ?_) [] rfl (by kernel_rfl) (by kernel_rfl) (by kernel_rfl) (by kernel_rfl) (fun _ _ _ h => h) (by rfl) hS0 (fun w' hS' => ?_) ?_
          rotate_left
          · (try dsimp only at hS'); go_simp
            try with_reducible rfl
          simp only [Act.put, List.setIfInBounds_toArray, List.set_cons_zero, List.set_cons_succ]
          refine pz_take 16 (v := ?_) [] rfl (by kernel_rfl) (by kernel_rfl) (by kernel_rfl) (by kernel_rfl) (fun _ _ _ h => h) (by rfl) hS0 (fun w' hS' => ?_) ?_
          rotate_left
          · (try dsimp only at hS'); go_simp
            try with_reducible rfl
          simp only [Act.put, List.setIfInBounds_toArray, List.set_cons_zero, List.set_cons_succ]
          refine pz_take 17 (v := ?_) [] rfl (by kernel_rfl) (by kernel_rfl) (by kernel_rfl) (by kernel_rfl) (fun _ _ _ h => h) (by rfl) hS0 (fun w' hS' => ?_) ?_
          rotate_left
          · (try dsimp only at hS'); go_simp
            try with_reducible rfl
          simp only [Act.put, List.setIfInBounds_toArray, List.set_cons_zero, List.set_cons_succ]
          refine pz_take 18 (v := ?_) [] rfl (by kernel_rfl) (by kernel_rfl) (by kernel_rfl) (by kernel_rfl) (fun _ _ _ h => h) (by rfl) hS0 (fun w' hS' => ?_) ?_
          rotate_left
          · (try dsimp only at hS'); go_simp
            try with_reducible rfl
          simp only [Act.put, List.setIfInBounds_toArray, List.set_cons_zero, List.set_cons_succ]
          refine pz_take 19 (v := ?_) [] rfl (by kernel_rfl) (by kernel_rfl) (by kernel_rfl) (by kernel_rfl) (fun _ _ _ h => h) (by rfl) hS0 (fun w' hS' => ?_) ?_
          rotate_left
          · (try dsimp only at hS'); go_simp
            try with_reducible rfl
          simp only [Act.put, List.setIfInBounds_toArray, List.set_cons_zero, List.set_cons_succ]
          refine pz_take 20 (v := ?_) [] rfl (by kernel_rfl) (by kernel_rfl) (by kernel_rfl) (by kernel_rfl) (fun _ _ _ h => h) (by rfl) hS0 (fun w' hS' => ?_) ?_
          rotate_left
          · (try dsimp only at hS'); go_simp
            try with_reducible rfl
          simp only [Act.put, List.setIfInBounds_toArray, List.set_cons_zero, List.set_cons_succ]
          refine pz_take 21 (v := ?_) [] rfl (by kernel_rfl) (by kernel_rfl) (by kernel_rfl) (by kernel_rfl) (fun _ _ _ h => h) (by rfl) hS0 (fun w' hS' => ?_) ?_
          rotate_left
          · (try dsimp only at hS'); go_simp
            try with_reducible rfl
          simp only [Act.put, List.setIfInBounds_toArray, List.set_cons_zero, List.set_cons_succ]
          refine pz_done (by kernel_rfl) ?_ _
          clear hS0 q0 q4 r0 r1
          go_wp2_with fail
          go_ret2
          exact InTo.stale (HA.out.keep0 ((Fr.refl _ _).drew)) (stale_ne H2.out h4) rfl
  case rest =>
  obtain ⟨rfl, rfl, hcut⟩ := hcut
  have HS1 : Hid (SOk (metSt S F)) := hid (metSt_ok HOK.out (by have := HFB.out.2.1; omega))
  have HIN : Hid (∀ w' e, InT w w' sb (ackSt (metSt S F) F.known F.ack) F rv mb N e → InTo w sb S rv mb N (some F) e w') := hid (fun w' e k => InT.to k hcut.out.1)
  have HI1 := hid hcut.out.2
  clear HA HB HR HL HO H HOK hcut
  generalize metSt S F = S1 at *
  obtain ⟨rv1, vs1, mb1, fv, g1, g2, g3, g4, g5⟩ := HI1.out
  obtain ⟨ao, c, rfl⟩ := g1.form
  obtain ⟨n, HN⟩ : ∃ n, Hid (S1.l.length = n) := ⟨_, hid rfl⟩
  rw [HN.out] at g1
  have c2 : wc.cell? ⟨sb, 2, none⟩ = some (.int .i64 S1.first) := by rw [cell_at g1.blk]; rfl
  have c3 := g1.c3
  have c0 : wc.cell? ⟨sb, 0, none⟩ = some (.int .i64 S1.epoch) := by rw [cell_at g1.blk]; rfl
  have d3 : wc.cell? ⟨fb, 3, none⟩ = some (.int .i64 (F.ack : Int)) := by rw [cell_at g2]; rfl
  have d1 : wc.cell? ⟨fb, 1, none⟩ = some (.int .i64 (F.known : Int)) := by rw [cell_at g2]; rfl
  obtain ⟨nn, HNK⟩ : ∃ nn, Hid ((F.ack : Int) - S1.first + 1 = nn) := ⟨_, hid rfl⟩
  have w1' : IntKind.i64.wrap ((F.ack : Int) - S1.first) = (F.ack : Int) - S1.first := IntWalk.i64_in _ (by have := HS1.out.first; have := HFB.out; omega)
  have w2' : IntKind.i64.wrap ((F.ack : Int) - S1.first + 1) = nn := by rw [← HNK.out]; exact IntWalk.i64_in _ (by have := HS1.out.first; have := HFB.out; omega)
  have C : Hid (wc.cell? ⟨sb, 0, none⟩ = some (.int .i64 S1.epoch) ∧ wc.cell? ⟨sb, 3, none⟩ = some (.slice ao n c) ∧ wc.cell? ⟨fb, 1, none⟩ = some (.int .i64 (F.known : Int))) := hid ⟨c0, c3, d1⟩
  clear c0 c3 d1 g1 g2 g3 g4 g5
  go_upto_region 10 with fail
  go_quiet (fail)
  go_upto_region 11 with fail
  clear c2 d3 w1' w2'
  have HI2 := hid (HI1.out.keep0 ((Fr.refl F0 wc).drewN nq))
  have C : Hid ((wc.drewN nq).cell? ⟨sb, 0, none⟩ = some (.int .i64 S1.epoch) ∧ (wc.drewN nq).cell? ⟨sb, 3, none⟩ = some (.slice ao n c) ∧ (wc.drewN nq).cell? ⟨fb, 1, none⟩ = some (.int .i64 (F.known : Int))) := C
  generalize wc.drewN nq = W2 at *
  go_cut [10, 85] (fun x s wx => x = .int .i64 nn ∧ s = .bool (ackB S1 F.known F.ack) ∧ InR w wx sb S1 fb F rv mb N)
  case first =>
    by_cases hb : (F.known : Int) = S1.epoch
    · by_cases hb2 : 0 < nn
      · have hb1' : ((F.known : Int) == S1.epoch) = true := by simpa using hb
        have hb2' : decide (0 < nn) = true := decide_eq_true hb2
        have HAB : ackB S1 F.known F.ack = decide (nn ≤ (n : Int)) := by unfold ackB; rw [HNK.out, HN.out]; simp [hb, hb2]
        clear hb hb2
        go_upto_region 11 with fail
        refine pz_start [] (fun w' => w'.heap = W2.heap) (by kernel_rfl) ?_
        have hS0 : W2.drew.heap = W2.heap := rfl
        have q0 : ∀ w' : World, w'.heap = W2.heap → w'.cell? ⟨sb, 0, none⟩ = some (.int .i64 S1.epoch) := fun w' f => by rw [World.cell?_of_block (w := W2) (by rw [f])]; exact C.out.1
        have q3 : ∀ w' : World, w'.heap = W2.heap → w'.cell? ⟨sb, 3, none⟩ = some (.slice ao n c) := fun w' f => by rw [World.cell?_of_block (w := W2) (by rw [f])]; exact C.out.2.1
        have r1 : ∀ w' : World, w'.heap = W2.heap → w'.cell? ⟨fb, 1, none⟩ = some (.int .i64 (F.known : Int)) := fun w' f => by rw [World.cell?_of_block (w := W2) (by rw [f])]; exact C.out.2.2
        refine pz_take 0 (v := ?_) [] rfl (by kernel_rfl) (by kernel_rfl) (by kernel_rfl) (by kernel_rfl) (fun _ _ _ h => h) (by rfl) hS0 (fun w' hS' => ?_) ?_
        rotate_left
        · (try dsimp only at hS'); go_simp
          try with_reducible rfl
        simp only [Act.put, List.setIfInBounds_toArray, List.set_cons_zero, List.set_cons_succ]
        refine pz_take 2 (v := ?_) [] rfl (by kernel_rfl) (by kernel_rfl) (by kernel_rfl) (by kernel_rfl) (fun _ _ _ h => h) (by rfl) hS0 (fun w' hS' => ?_) ?_
        rotate_left
        · (try dsimp only at hS'); go_simp
          try with_reducible rfl
        simp only [Act.put, List.setIfInBounds_toArray, List.set_cons_zero, List.set_cons_succ]
        refine pz_take 1 (v := ?_) [] rfl (by kernel_rfl) (by kernel_rfl) (by kernel_rfl) (by kernel_rfl) (fun _ _ _ h => h) (by rfl) hS0 (fun w' hS' => ?_) ?_
        rotate_left
        · (try dsimp only at hS'); go_simp
          try with_reducible rfl
        simp only [Act.put, List.setIfInBounds_toArray, List.set_cons_zero, List.set_cons_succ]
        refine pz_take 3 (v := ?_) [] rfl (by kernel_rfl) (by kernel_rfl) (by kernel_rfl) (by kernel_rfl) (fun _ _ _ h => h) (by rfl) hS0 (fun w' hS' => ?_) ?_
        rotate_left
        · (try dsimp only at hS'); go_simp
          try with_reducible rfl
        simp only [Act.put, List.setIfInBounds_toArray, List.set_cons_zero, List.set_cons_succ]
        refine pz_take 4 (v := ?_) [] rfl (by kernel_rfl) (by kernel_rfl) (by kernel_rfl) (by kernel_rfl) (fun _ _ _ h => h) (by rfl) hS0 (fun w' hS' => ?_) ?_
        rotate_left
        · (try dsimp only at hS'); go_simp
          try with_reducible rfl
        simp only [Act.put, List.setIfInBounds_toArray, List.set_cons_zero, List.set_cons_succ]
        refine pz_take 5 (v := ?_) [] rfl (by kernel_rfl) (by kernel_rfl) (by kernel_rfl) (by kernel_rfl) (fun _ _ _ h => h) (by rfl) hS0 (fun w' hS' => ?_) ?_
        rotate_left
        · (try dsimp only at hS'); go_simp
          try with_reducible rfl
        simp only [Act.put, List.setIfInBounds_toArray, List.set_cons_zero, List.set_cons_succ]
        refine pz_take 6 (v := ?_) [] rfl (by kernel_rfl) (by kernel_rfl) (by kernel_rfl) (by kernel_rfl) (fun _ _ _ h => h) (by rfl) hS0 (fun w' hS' => ?_) ?_
        rotate_left
        · (try dsimp only at hS'); go_simp
          try with_reducible rfl
        simp only [Act.put, List.setIfInBounds_toArray, List.set_cons_zero, List.set_cons_succ]
        refine pz_take 7 (v := ?_) [] rfl (by kernel_rfl) (by kernel_rfl) (by kernel_rfl) (by kernel_rfl) (fun _ _ _ h => h) (by rfl) hS0 (fun w' hS' => ?_) ?_
        rotate_left
        · (try dsimp only at hS'); go_simp
          try with_reducible rfl
        simp only [Act.put, List.setIfInBounds_toArray, List.set_cons_zero, List.set_cons_succ]
        refine pz_take 8 (v := ?_) [] rfl (by kernel_rfl) (by kernel_rfl) (by kernel_rfl) (by kernel_rfl) (fun _ _ _ h => h) (by rfl) hS0 (fun w' hS' => ?_) ?_
        rotate_left
        · (try dsimp only at hS'); go_simp
          try with_reducible rfl
        simp only [Act.put, List.setIfInBounds_toArray, List.set_cons_zero, List.set_cons_succ]
        refine pz_take 9 (v := ?_) [] rfl (by kernel_rfl) (by kernel_rfl) (by kernel_rfl) (by kernel_rfl) (fun _ _ _ h => h) (by rfl) hS0 (fun w' hS' => ?_) ?_
        rotate_left
        · (try dsimp only at hS'); go_simp
          try with_reducible rfl
        simp only [Act.put, List.setIfInBounds_toArray, List.set_cons_zero, List.set_cons_succ]
        refine pz_take 10 (v := ?_) [] rfl (by kernel_rfl) (by kernel_rfl) (by kernel_rfl) (by kernel_rfl) (fun _ _ _ h => h) (by rfl) hS0 (fun w' hS' => ?_) ?_
        rotate_left
        · (try dsimp only at hS'); go_simp
          try with_reducible rfl
        simp only [Act.put, List.setIfInBounds_toArray, List.set_cons_zero, List.set_cons_succ]
        refine pz_take 11 (v := ?_) [] rfl (by kernel_rfl) (by kernel_rfl) (by kernel_rfl) (by kernel_rfl) (fun _ _ _ h => h) (by rfl) hS0 (fun w' hS' => ?_) ?_
        rotate_left
        · (try dsimp only at hS'); go_simp
          try with_reducible rfl
        simp only [Act.put, List.setIfInBounds_toArray, List.set_cons_zero, List.set_cons_succ]
        refine pz_take 12 (v := ?_) [] rfl (by kernel_rfl) (by kernel_rfl) (by kernel_rfl) (by kernel_rfl) (fun _ _ _ h => h) (by rfl) hS0 (fun w' hS' => ?_) ?_
        rotate_left
        · (try dsimp only at hS'); go_simp
          try with_reducible rfl
        simp only [Act.put, List.setIfInBounds_toArray, List.set_cons_zero, List.set_cons_succ]
        refine pz_take 13 (v := ?_) [] rfl (by kernel_rfl) (by kernel_rfl) (by kernel_rfl) (by kernel_rfl) (fun _ _ _ h => h) (by rfl) hS0 (fun w' hS' => ?_) ?_
        rotate_left
        · (try dsimp only at hS'); go_simp
          try with_reducible rfl
        simp only [Act.put, List.setIfInBounds_toArray, List.set_cons_zero, List.set_cons_succ]
        refine pz_take 14 (v := ?_) [] rfl (by kernel_rfl) (by kernel_rfl) (by kernel_rfl) (by kernel_rfl) (fun _ _ _ h => h) (by rfl) hS0 (fun w' hS' => ?_) ?_
        rotate_left
        · (try dsimp only at hS'); go_simp
          try with_reducible rfl
        simp only [Act.put, List.setIfInBounds_toArray, List.set_cons_zero, List.set_cons_succ]
        refine pz_take 15 (v := ?_) [] rfl (by kernel_rfl) (by kernel_rfl) (by kernel_rfl) (by kernel_rfl) (fun _ _ _ h => h) (by rfl) hS0 (fun w' hS' => ?_) ?_
        rotate_left
        · (try dsimp only at hS'); go_simp
          try with_reducible rfl
        simp only [Act.put, List.setIfInBounds_toArray, List.set_cons_zero, List.set_cons_succ]
        refine pz_take 16 (v := ?_) [] rfl (by kernel_rfl) (by kernel_rfl) (by kernel_rfl) (by kernel_rfl) (fun _ _ _ h => h) (by rfl) hS0 (fun w' hS' => ?_) ?_
        rotate_left
        · (try dsimp only at hS'); go_simp
          try with_reducible rfl
        simp only [Act.put, List.setIfInBounds_toArray, List.set_cons_zero, List.set_cons_succ]
        refine pz_take 17 (v := ?_) [] rfl (by kernel_rfl) (by kernel_rfl) (by kernel_rfl) (by kernel_rfl) (fun _ _ _ h => h) (by rfl) hS0 (fun w' hS' => ?_) ?_
        rotate_left
        · (try dsimp only at hS'); go_simp
          try with_reducible rfl
        simp only [Act.put, List.setIfInBounds_toArray, List.set_cons_zero, List.set_cons_succ]
        refine pz_take 18 (v := ?_) [] rfl (by kernel_rfl) (by kernel_rfl) (by kernel_rfl) (by kernel_rfl) (fun _ _ _ h => h) (by rfl) hS0 (fun w' hS' => ?_) ?_
        rotate_left
        · (try dsimp only at hS'); go_simp
          try with_reducible rfl
        simp only [Act.put, List.setIfInBounds_toArray, List.set_cons_zero, List.set_cons_succ]
        refine pz_take 19 (v := ?_) [] rfl (by kernel_rfl) (by kernel_rfl) (by kernel_rfl) (by kernel_rfl) (fun _ _ _ h => h) (by rfl) hS0 (fun w' hS' => ?_) ?_
        rotate_left
        · (try dsimp only at hS'); go_simp
          try with_reducible rfl
        simp only [Act.put, List.setIfInBounds_toArray, List.set_cons_zero, List.set_cons_succ]
        refine pz_done (by kernel_rfl) ?_ _
        clear hS0 q0 q3 r1
        go_wp2_with fail
        go_meet
        case rel => exact ⟨rfl, by rw [HAB], HI2.out.keep0 (Fr.refl _ _).drew⟩
      · have hb1' : ((F.known : Int) == S1.epoch) = true := by simpa using hb
        have hb2' : decide (0 < nn) = false := decide_eq_false hb2
        have HAB : ackB S1 F.known F.ack = false := by unfold ackB; rw [HNK.out]; simp [hb2]
        clear hb hb2
        go_upto_region 11 with fail
        refine pz_start [] (fun w' => w'.heap = W2.heap) (by kernel_rfl) ?_
        have hS0 : W2.drew.heap = W2.heap := rfl
        have q0 : ∀ w' : World, w'.heap = W2.heap → w'.cell? ⟨sb, 0, none⟩ = some (.int .i64 S1.epoch) := fun w' f => by rw [World.cell?_of_block (w := W2) (by rw [f])]; exact C.out.1
        have q3 : ∀ w' : World, w'.heap = W2.heap → w'.cell? ⟨sb, 3, none⟩ = some (.slice ao n c) := fun w' f => by rw [World.cell?_of_block (w := W2) (by rw [f])]; exact C.out.2.1
        have r1 : ∀ w' : World, w'.heap = W2.heap → w'.cell? ⟨fb, 1, none⟩ = some (.int .i64 (F.known : Int)) := fun w' f => by rw [World.cell?_of_block (w := W2) (by rw [f])]; exact C.out.2.2
        refine pz_take 0 (v := ?_) [] rfl (by kernel_rfl) (by kernel_rfl) (by kernel_rfl) (by kernel_rfl) (fun _ _ _ h => h) (by rfl) hS0 (fun w' hS' => ?_) ?_
        rotate_left
        · (try dsimp only at hS'); go_simp
          try with_reducible rfl
        simp only [Act.put, List.setIfInBounds_toArray, List.set_cons_zero, List.set_cons_succ]
        refine pz_take 2 (v := ?_) [] rfl (by kernel_rfl) (by kernel_rfl) (by kernel_rfl) (by kernel_rfl) (fun _ _ _ h => h) (by rfl) hS0 (fun w' hS' => ?_) ?_
        rotate_left
        · (try dsimp only at hS'); go_simp
          try with_reducible rfl
        simp only [Act.put, List.setIfInBounds_toArray, List.set_cons_zero, List.set_cons_succ]
        refine pz_take 1 (v := ?_) [] rfl (by kernel_rfl) (by kernel_rfl) (by kernel_rfl) (by kernel_rfl) (fun _ _ _ h => h) (by rfl) hS0 (fun w' hS' => ?_) ?_
        rotate_left
        · (try dsimp only at hS'); go_simp
          try with_reducible rfl
        simp only [Act.put, List.setIfInBounds_toArray, List.set_cons_zero, List.set_cons_succ]
        refine pz_take 3 (v := ?_) [] rfl (by kernel_rfl) (by kernel_rfl) (by kernel_rfl) (by kernel_rfl) (fun _ _ _ h => h) (by rfl) hS0 (fun w' hS' => ?_) ?_
        rotate_left
        · (try dsimp only at hS'); go_simp
          try with_reducible rfl
        simp only [Act.put, List.setIfInBounds_toArray, List.set_cons_zero, List.set_cons_succ]
        refine pz_take 4 (v := ?_) [] rfl (by kernel_rfl) (by kernel_rfl) (by kernel_rfl) (by kernel_rfl) (fun _ _ _ h => h) (by rfl) hS0 (fun w' hS' => ?_) ?_
        rotate_left
        · (try dsimp only at hS'); go_simp
          try with_reducible rfl
        simp only [Act.put, List.setIfInBounds_toArray, List.set_cons_zero, List.set_cons_succ]
        refine pz_take 5 (v := ?_) [] rfl (by kernel_rfl) (by kernel_rfl) (by kernel_rfl) (by kernel_rfl) (fun _ _ _ h => h) (by rfl) hS0 (fun w' hS' => ?_) ?_
        rotate_left
        · (try dsimp only at hS'); go_simp
          try with_reducible rfl
        simp only [Act.put, List.setIfInBounds_toArray, List.set_cons_zero, List.set_cons_succ]
        refine pz_take 6 (v := ?_) [] rfl (by kernel_rfl) (by kernel_rfl) (by kernel_rfl) (by kernel_rfl) (fun _ _ _ h => h) (by rfl) hS0 (fun w' hS' => ?_) ?_
        rotate_left
        · (try dsimp only at hS'); go_simp
          try with_reducible rfl
        simp only [Act.put, List.setIfInBounds_toArray, List.set_cons_zero, List.set_cons_succ]
        refine pz_take 7 (v := ?_) [] rfl (by kernel_rfl) (by kernel_rfl) (by kernel_rfl) (by kernel_rfl) (fun _ _ _ h => h) (by rfl) hS0 (fun w' hS' => ?_) ?_
        rotate_left
        · (try dsimp only at hS'); go_simp
          try with_reducible rfl
        simp only [Act.put, List.setIfInBounds_toArray, List.set_cons_zero, List.set_cons_succ]
        refine pz_take 8 (v := ?_) [] rfl (by kernel_rfl) (by kernel_rfl) (by kernel_rfl) (by kernel_rfl) (fun _ _ _ h => h) (by rfl) hS0 (fun w' hS' => ?_) ?_
        rotate_left
        · (try dsimp only at hS'); go_simp
          try with_reducible rfl
        simp only [Act.put, List.setIfInBounds_toArray, List.set_cons_zero, List.set_cons_succ]
        refine pz_take 9 (v := ?_) [] rfl (by kernel_rfl) (by kernel_rfl) (by kernel_rfl) (by kernel_rfl) (fun _ _ _ h => h) (by rfl) hS0 (fun w' hS' => ?_) ?_
        rotate_left
        · (try dsimp only at hS'); go_simp
          try with_reducible rfl
        simp only [Act.put, List.setIfInBounds_toArray, List.set_cons_zero, List.set_cons_succ]
        refine pz_take 10 (v := ?_) [] rfl (by kernel_rfl) (by kernel_rfl) (by kernel_rfl) (by kernel_rfl) (fun _ _ _ h => h) (by rfl) hS0 (fun w' hS' => ?_) ?_
        rotate_left
        · (try dsimp only at hS'); go_simp
          try with_reducible rfl
        simp only [Act.put, List.setIfInBounds_toArray, List.set_cons_zero, List.set_cons_succ]
        refine pz_take 11 (v := ?_) [] rfl (by kernel_rfl) (by kernel_rfl) (by kernel_rfl) (by kernel_rfl) (fun _ _ _ h => h) (by rfl) hS0 (fun w' hS' => ?_) ?_
        rotate_left
        · (try dsimp only at hS'); go_simp
          try with_reducible rfl
        simp only [Act.put, List.setIfInBounds_toArray, List.set_cons_zero, List.set_cons_succ]
        refine pz_skip 12 [] rfl (by kernel_rfl) (by kernel_rfl) (by kernel_rfl) (by kernel_rfl) (fun _ _ _ h => h) (by rfl) hS0 ?_
        simp only [Act.put, List.setIfInBounds_toArray, List.set_cons_zero, List.set_cons_succ]
        refine pz_skip 13 [] rfl (by kernel_rfl) (by kernel_rfl) (by kernel_rfl) (by kernel_rfl) (fun _ _ _ h => h) (by rfl) hS0 ?_
        simp only [Act.put, List.setIfInBounds_toArray, List.set_cons_zero, List.set_cons_succ]
        refine pz_skip 14 [] rfl (by kernel_rfl) (by kernel_rfl) (by kernel_rfl) (by kernel_rfl) (fun _ _ _ h => h) (by rfl) hS0 ?_
        simp only [Act.put, List.setIfInBounds_toArray, List.set_cons_zero, List.set_cons_succ]
        refine pz_skip 15 [] rfl (by kernel_rfl) (by kernel_rfl) (by kernel_rfl) (by kernel_rfl) (fun _ _ _ h => h) (by rfl) hS0 ?_
        simp only [Act.put, List.setIfInBounds_toArray, List.set_cons_zero, List.set_cons_succ]
        refine pz_skip 16 [] rfl (by kernel_rfl) (by kernel_rfl) (by kernel_rfl) (by kernel_rfl) (fun _ _ _ h => h) (by rfl) hS0 ?_
        simp only [Act.put, List.setIfInBounds_toArray, List.set_cons_zero, List.set_cons_succ]
        refine pz_skip 17 [] rfl (by kernel_rfl) (by kernel_rfl) (by kernel_rfl) (by kernel_rfl) (fun _ _ _ h => h) (by rfl) hS0 ?_
        simp only [Act.put, List.setIfInBounds_toArray, List.set_cons_zero, List.set_cons_succ]
        refine pz_skip 18 [] rfl (by kernel_rfl) (by kernel_rfl) (by kernel_rfl) (by kernel_rfl) (fun _ _ _ h => h) (by rfl) hS0 ?_
        simp only [Act.put, List.setIfInBounds_toArray, List.set_cons_zero, List.set_cons_succ]
        refine pz_take 19 (v := ?_) [] rfl (by kernel_rfl) (by kernel_rfl) (by kernel_rfl) (by kernel_rfl) (fun _ _ _ h => h) (by rfl) hS0 (fun w' hS' => ?_) ?_
        rotate_left
        · (try dsimp only at hS'); go_simp
          try with_reducible rfl
        simp only [Act.put, List.setIfInBounds_toArray, List.set_cons_zero, List.set_cons_succ]
        refine pz_done (by kernel_rfl) ?_ _
        clear hS0 q0 q3 r1
        go_wp2_with fail
        go_meet
        case rel => exact ⟨rfl, by rw [HAB], HI2.out.keep0 (Fr.refl _ _).drew⟩
    · have hb1' : ((F.known : Int) == S1.epoch) = false := by simpa using hb
      have HAB : ackB S1 F.known F.ack = false := by unfold ackB; simp [hb]
      clear hb
      go_upto_region 11 with fail
      refine pz_start [] (fun w' => w'.heap = W2.heap) (by kernel_rfl) ?_
      have hS0 : W2.drew.heap = W2.heap := rfl
      have q0 : ∀ w' : World, w'.heap = W2.heap → w'.cell? ⟨sb, 0, none⟩ = some (.int .i64 S1.epoch) := fun w' f => by rw [World.cell?_of_block (w := W2) (by rw [f])]; exact C.out.1
      have q3 : ∀ w' : World, w'.heap = W2.heap → w'.cell? ⟨sb, 3, none⟩ = some (.slice ao n c) := fun w' f => by rw [World.cell?_of_block (w := W2) (by rw [f])]; exact C.out.2.1
      have r1 : ∀ w' : World, w'.heap = W2.heap → w'.cell? ⟨fb, 1, none⟩ = some (.int .i64 (F.known : Int)) := fun w' f => by rw [World.cell?_of_block (w := W2) (by rw [f])]; exact C.out.2.2
      refine pz_take 0 (v := ?_) [] rfl (by kernel_rfl) (by kernel_rfl) (by kernel_rfl) (by kernel_rfl) (fun _ _ _ h => h) (by rfl) hS0 (fun w' hS' => ?_) ?_
      rotate_left
      · (try dsimp only at hS'); go_simp
        try with_reducible rfl
      simp only [Act.put, List.setIfInBounds_toArray, List.set_cons_zero, List.set_cons_succ]
      refine pz_take 2 (v := ?_) [] rfl (by kernel_rfl) (by kernel_rfl) (by kernel_rfl) (by kernel_rfl) (fun _ _ _ h => h) (by rfl) hS0 (fun w' hS' => ?_) ?_
      rotate_left
      · (try dsimp only at hS'); go_simp
        try with_reducible rfl
      simp only [Act.put, List.setIfInBounds_toArray, List.set_cons_zero, List.set_cons_succ]
      refine pz_take 1 (v := ?_) [] rfl (by kernel_rfl) (by kernel_rfl) (by kernel_rfl) (by kernel_rfl) (fun _ _ _ h => h) (by rfl) hS0 (fun w' hS' => ?_) ?_
      rotate_left
      · (try dsimp only at hS'); go_simp
        try with_reducible rfl
      simp only [Act.put, List.setIfInBounds_toArray, List.set_cons_zero, List.set_cons_succ]
      refine pz_take 3 (v := ?_) [] rfl (by kernel_rfl) (by kernel_rfl) (by kernel_rfl) (by kernel_rfl) (fun _ _ _ h => h) (by rfl) hS0 (fun w' hS' => ?_) ?_
      rotate_left
      · (try dsimp only at hS'); go_simp
        try with_reducible rfl
      simp only [Act.put, List.setIfInBounds_toArray, List.set_cons_zero, List.set_cons_succ]
      refine pz_take 4 (v := ?_) [] rfl (by kernel_rfl) (by kernel_rfl) (by kernel_rfl) (by kernel_rfl) (fun _ _ _ h => h) (by rfl) hS0 (fun w' hS' => ?_) ?_
      rotate_left
      · (try dsimp only at hS'); go_simp
        try with_reducible rfl
      simp only [Act.put, List.setIfInBounds_toArray, List.set_cons_zero, List.set_cons_succ]
      refine pz_take 5 (v := ?_) [] rfl (by kernel_rfl) (by kernel_rfl) (by kernel_rfl) (by kernel_rfl) (fun _ _ _ h => h) (by rfl) hS0 (fun w' hS' => ?_) ?_
      rotate_left
      · (try dsimp only at hS'); go_simp
        try with_reducible rfl
      simp only [Act.put, List.setIfInBounds_toArray, List.set_cons_zero, List.set_cons_succ]
      refine pz_take 6 (v := ?_) [] rfl (by kernel_rfl) (by kernel_rfl) (by kernel_rfl) (by kernel_rfl) (fun _ _ _ h => h) (by rfl) hS0 (fun w' hS' => ?_) ?_
      rotate_left
      · (try dsimp only at hS'); go_simp
        try with_reducible rfl
      simp only [Act.put, List.setIfInBounds_toArray, List.set_cons_zero, List.set_cons_succ]
      refine pz_take 7 (v := ?_) [] rfl (by kernel_rfl) (by kernel_rfl) (by kernel_rfl) (by kernel_rfl) (fun _ _ _ h => h) (by rfl) hS0 (fun w' hS' => ?_) ?_
      rotate_left
      · (try dsimp only at hS'); go_simp
        try with_reducible rfl
      simp only [Act.put, List.setIfInBounds_toArray, List.set_cons_zero, List.set_cons_succ]
      refine pz_skip 8 [] rfl (by kernel_rfl) (by kernel_rfl) (by kernel_rfl) (by kernel_rfl) (fun _ _ _ h => h) (by rfl) hS0 ?_
      simp only [Act.put, List.setIfInBounds_toArray, List.set_cons_zero, List.set_cons_succ]
      refine pz_skip 9 [] rfl (by kernel_rfl) (by kernel_rfl) (by kernel_rfl) (by kernel_rfl) (fun _ _ _ h => h) (by rfl) hS0 ?_
      simp only [Act.put, List.setIfInBounds_toArray, List.set_cons_zero, List.set_cons_succ]
      refine pz_take 10 (v := ?_) [] rfl (by kernel_rfl) (by kernel_rfl) (by kernel_rfl) (by kernel_rfl) (fun _ _ _ h => h) (by rfl) hS0 (fun w' hS' => ?_) ?_
      rotate_left
      · (try dsimp only at hS'); go_simp
        try with_reducible rfl
      simp only [Act.put, List.setIfInBounds_toArray, List.set_cons_zero, List.set_cons_succ]
      refine pz_take 11 (v := ?_) [] rfl (by kernel_rfl) (by kernel_rfl) (by kernel_rfl) (by kernel_rfl) (fun _ _ _ h => h) (by rfl) hS0 (fun w' hS' => ?_) ?_
      rotate_left
      · (try dsimp only at hS'); go_simp
        try with_reducible rfl
      simp only [Act.put, List.setIfInBounds_toArray, List.set_cons_zero, List.set_cons_succ]
      refine pz_skip 12 [] rfl (by kernel_rfl) (by kernel_rfl) (by kernel_rfl) (by kernel_rfl) (fun _ _ _ h => h) (by rfl) hS0 ?_
      simp only [Act.put, List.setIfInBounds_toArray, List.set_cons_zero, List.set_cons_succ]
      refine pz_skip 13 [] rfl (by kernel_rfl) (by kernel_rfl) (by kernel_rfl) (by kernel_rfl) (fun _ _ _ h => h) (by rfl) hS0 ?_
      simp only [Act.put, List.setIfInBounds_toArray, List.set_cons_zero, List.set_cons_succ]
      refine pz_skip 14 [] rfl (by kernel_rfl) (by kernel_rfl) (by kernel_rfl) (by kernel_rfl) (fun _ _ _ h => h) (by rfl) hS0 ?_
      simp only [Act.put, List.setIfInBounds_toArray, List.set_cons_zero, List.set_cons_succ]
      refine pz_skip 15 [] rfl (by kernel_rfl) (by kernel_rfl) (by kernel_rfl) (by kernel_rfl) (fun _ _ _ h => h) (by rfl) hS0 ?_
      simp only [Act.put, List.setIfInBounds_toArray, List.set_cons_zero, List.set_cons_succ]
      refine pz_skip 16 [] rfl (by kernel_rfl) (by kernel_rfl) (by kernel_rfl) (by kernel_rfl) (fun _ _ _ h => h) (by rfl) hS0 ?_
      simp only [Act.put, List.setIfInBounds_toArray, List.set_cons_zero, List.set_cons_succ]
      refine pz_skip 17 [] rfl (by kernel_rfl) (by kernel_rfl) (by kernel_rfl) (by kernel_rfl) (fun _ _ _ h => h) (by rfl) hS0 ?_
      simp only [Act.put, List.setIfInBounds_toArray, List.set_cons_zero, List.set_cons_succ]
      refine pz_skip 18 [] rfl (by kernel_rfl) (by kernel_rfl) (by kernel_rfl) (by kernel_rfl) (fun _ _ _ h => h) (by rfl) hS0 ?_
      simp only [Act.put, List.setIfInBounds_toArray, List.set_cons_zero, List.set_cons_succ]
      refine pz_take 19 (v := ?_) [] rfl (by kernel_rfl) (by kernel_rfl) (by kernel_rfl) (by kernel_rfl) (fun _ _ _ h => h) (by rfl) hS0 (fun w' hS' => ?_) ?_
      rotate_left
      · (try dsimp only at hS'); go_simp
        try with_reducible rfl
      simp only [Act.put, List.setIfInBounds_toArray, List.set_cons_zero, List.set_cons_succ]
      refine pz_done (by kernel_rfl) ?_ _
      clear hS0 q0 q3 r1
      go_wp2_with fail
      go_meet
      case rel => exact ⟨rfl, by rw [HAB], HI2.out.keep0 (Fr.refl _ _).drew⟩
  case rest =>
  obtain ⟨rfl, rfl, hcut⟩ := hcut
  have HI3 := hid hcut
  clear hcut HI2 HI1 C
  go_upto_if 85 with fail
  go_cut [] (fun wx => InR w wx sb (ackSt S1 F.known F.ack) fb F rv mb N)
  case first =>
    by_cases hab : ackB S1 F.known F.ack = true
    · rw [hab]
      obtain ⟨k, hk1, hk2, hk3⟩ := ackB_yes hab
      rw [HNK.out] at hk1
      subst hk1
      rw [HN.out] at hk2
      have HK := hid (And.intro hk2 hk3)
      have hkn : (k : Int) ≤ (n : Int) := by omega
      clear hab hk2 hk3
      obtain ⟨rv1, vs1, mb1, fv, g1, g2, g3, g4, g5⟩ := HI3.out
      have e1 : ∃ ao c, rv1 = .slice ao n c := by obtain ⟨ao, c, e⟩ := g1.form; rw [HN.out] at e; exact ⟨ao, c, e⟩
      obtain ⟨ao1, c1, rfl⟩ := e1
      obtain ⟨i0, z0, hi0, hz1, hz2, hz0, hz3⟩ := info_partsM
      obtain ⟨a9, c9, run9, own9, blk9⟩ := run_slOwn (P := Try.prog) 113 118 i0 3 Try.underlying113 hi0 hz0 ao1 n c1 _ (by have := g1.row; rw [HN.out] at this; exact this) k (by omega)
      have ws : IntKind.i64.wrap (S1.first + (k : Int)) = S1.first + (k : Int) := IntWalk.i64_in _ (by have := HS1.out.first; have := HN.out; omega)
      have G1 := hid g1
      have G2 := hid (And.intro g2 (And.intro g3 (And.intro g4 g5)))
      have G3 := hid (And.intro own9 blk9)
      clear g1 g2 g3 g4 g5 own9 blk9 hi0 hz0 hz1 hz2 hz3 HI3
      go_wp2_with fail
      refine pz_start [16] (fun w' => w'.heap = wc.heap) (by kernel_rfl) ?_
      have hS0 : wc.drew.heap = wc.heap := rfl
      have q3 : ∀ w' : World, w'.heap = wc.heap → w'.cell? ⟨sb, 3, none⟩ = some (.slice ao1 n c1) := fun w' f => by rw [World.cell?_of_block (w := wc) (by rw [f]), cell_at G1.out.blk]; rfl
      have q2 : ∀ w' : World, w'.heap = wc.heap → w'.cell? ⟨sb, 2, none⟩ = some (.int .i64 S1.first) := fun w' f => by rw [World.cell?_of_block (w := wc) (by rw [f]), cell_at G1.out.blk]; rfl
      refine pz_take 0 (v := ?_) [[0]] rfl (by kernel_rfl) (by kernel_rfl) (by kernel_rfl) (by kernel_rfl) (fun _ _ _ h => h) (by rfl) hS0 (fun w' hS' => ?_) ?_
      rotate_left
      · (try dsimp only at hS'); go_simp
        try with_reducible rfl
      simp only [Act.put, List.setIfInBounds_toArray, List.set_cons_zero, List.set_cons_succ]
      refine pz_pure 1 (v := ?_) rfl (by kernel_rfl) (by kernel_rfl) (by kernel_rfl) (by kernel_rfl) (fun _ _ _ h => h) (by rfl) hS0 (fun w' => ?_) ?_
      rotate_left
      · go_simp
        try with_reducible rfl
      simp only [Act.put, List.setIfInBounds_toArray, List.set_cons_zero, List.set_cons_succ]
      refine pz_take 2 (v := ?_) [[2]] rfl (by kernel_rfl) (by kernel_rfl) (by kernel_rfl) (by kernel_rfl) (fun _ _ _ h => h) (by rfl) hS0 (fun w' hS' => ?_) ?_
      rotate_left
      · (try dsimp only at hS'); go_simp
        try with_reducible rfl
      simp only [Act.put, List.setIfInBounds_toArray, List.set_cons_zero, List.set_cons_succ]
      refine pz_take 6 (v := ?_) [[6]] rfl (by kernel_rfl) (by kernel_rfl) (by kernel_rfl) (by kernel_rfl) (fun _ _ _ h => h) (by rfl) hS0 (fun w' hS' => ?_) ?_
      rotate_left
      · (try dsimp only at hS'); go_simp
        try with_reducible rfl
      simp only [Act.put, List.setIfInBounds_toArray, List.set_cons_zero, List.set_cons_succ]
      refine pz_take 8 (v := ?_) [[11, 10, 9, 8]] rfl (by kernel_rfl) (by kernel_rfl) (by kernel_rfl) (by kernel_rfl) (fun _ _ _ h => h) (by rfl) hS0 (fun w' hS' => ?_) ?_
      rotate_left
      · (try dsimp only at hS'); go_simp
        try with_reducible rfl
      simp only [Act.put, List.setIfInBounds_toArray, List.set_cons_zero, List.set_cons_succ]
      refine pz_pure 12 (v := ?_) rfl (by kernel_rfl) (by kernel_rfl) (by kernel_rfl) (by kernel_rfl) (fun _ _ _ h => h) (by rfl) hS0 (fun w' => ?_) ?_
      rotate_left
      · go_simp
        try with_reducible rfl
      simp only [Act.put, List.setIfInBounds_toArray, List.set_cons_zero, List.set_cons_succ]
      refine pz_take 3 (v := ?_) [[3]] rfl (by kernel_rfl) (by kernel_rfl) (by kernel_rfl) (by kernel_rfl) (fun _ _ _ h => h) (by rfl) hS0 (fun w' hS' => ?_) ?_
      rotate_left
      · (try dsimp only at hS'); go_simp
        try with_reducible rfl
      simp only [Act.put, List.setIfInBounds_toArray, List.set_cons_zero, List.set_cons_succ]
      refine pz_take 9 (v := ?_) [[11, 10, 9]] rfl (by kernel_rfl) (by kernel_rfl) (by kernel_rfl) (by kernel_rfl) (fun _ _ _ h => h) (by rfl) hS0 (fun w' hS' => ?_) ?_
      rotate_left
      · (try dsimp only at hS'); go_simp
        try with_reducible rfl
      simp only [Act.put, List.setIfInBounds_toArray, List.set_cons_zero, List.set_cons_succ]
      refine pz_take 4 (v := ?_) [[4]] rfl (by kernel_rfl) (by kernel_rfl) (by kernel_rfl) (by kernel_rfl) (fun _ _ _ h => h) (by rfl) hS0 (fun w' hS' => ?_) ?_
      rotate_left
      · (try dsimp only at hS'); go_simp
        try with_reducible rfl
      simp only [Act.put, List.setIfInBounds_toArray, List.set_cons_zero, List.set_cons_succ]
      refine pz_take 10 (v := ?_) [[11, 10]] rfl (by kernel_rfl) (by kernel_rfl) (by kernel_rfl) (by kernel_rfl) (fun _ _ _ h => h) (by rfl) hS0 (fun w' hS' => ?_) ?_
      rotate_left
      · (try dsimp only at hS'); go_simp
        try with_reducible rfl
      simp only [Act.put, List.setIfInBounds_toArray, List.set_cons_zero, List.set_cons_succ]
      refine pz_take 5 (v := ?_) [[5]] rfl (by kernel_rfl) (by kernel_rfl) (by kernel_rfl) (by kernel_rfl) (fun _ _ _ h => h) (by rfl) hS0 (fun w' hS' => ?_) ?_
      rotate_left
      · (try dsimp only at hS'); go_simp
        try with_reducible rfl
      simp only [Act.put, List.setIfInBounds_toArray, List.set_cons_zero, List.set_cons_succ]
      refine pz_take 11 (v := ?_) [[11]] rfl (by kernel_rfl) (by kernel_rfl) (by kernel_rfl) (by kernel_rfl) (fun _ _ _ h => h) (by rfl) hS0 (fun w' hS' => ?_) ?_
      rotate_left
      · (try dsimp only at hS'); go_simp
        try with_reducible rfl
      simp only [Act.put, List.setIfInBounds_toArray, List.set_cons_zero, List.set_cons_succ]
      refine pz_take 7 (v := ?_) [[7]] rfl (by kernel_rfl) (by kernel_rfl) (by kernel_rfl) (by kernel_rfl) (fun _ _ _ h => h) (by rfl) hS0 (fun w' hS' => ?_) ?_
      rotate_left
      · (try dsimp only at hS'); go_simp
        try with_reducible rfl
      simp only [Act.put, List.setIfInBounds_toArray, List.set_cons_zero, List.set_cons_succ]
      refine pz_pure 13 (v := ?_) rfl (by kernel_rfl) (by kernel_rfl) (by kernel_rfl) (by kernel_rfl) (fun _ _ _ h => h) (by rfl) hS0 (fun w' => ?_) ?_
      rotate_left
      · go_simp
        try with_reducible rfl
      simp only [Act.put, List.setIfInBounds_toArray, List.set_cons_zero, List.set_cons_succ]
      refine pz_take 14 (v := ?_) [[15, 14]] rfl (by kernel_rfl) (by kernel_rfl) (by kernel_rfl) (by kernel_rfl) (fun _ _ _ h => h) (by rfl) hS0 (fun w' hS' => ?_) ?_
      rotate_left
      · (try dsimp only at hS'); go_simp
        try with_reducible rfl
      simp only [Act.put, List.setIfInBounds_toArray, List.set_cons_zero, List.set_cons_succ]
      refine pz_take 15 (v := ?_) [[15]] rfl (by kernel_rfl) (by kernel_rfl) (by kernel_rfl) (by kernel_rfl) (fun _ _ _ h => h) (by rfl) hS0 (fun w' hS' => ?_) ?_
      rotate_left
      · (try dsimp only at hS'); go_simp
        try with_reducible rfl
      simp only [Act.put, List.setIfInBounds_toArray, List.set_cons_zero, List.set_cons_succ]
      clear hS0 q3 q2 run9 ws
      have hfz : ∀ i, wc.frozen? ⟨sb, i, none⟩ = false := frozen_at G1.out.blk
      have hc3 : wc.cell? ⟨sb, 3, none⟩ = some (.slice ao1 n c1) := by rw [cell_at G1.out.blk]; rfl
      have hc2 : wc.cell? ⟨sb, 2, none⟩ = some (.int .i64 S1.first) := by rw [cell_at G1.out.blk]; rfl
      have hsbz : sb < wc.heap.size := lt_of_heap G1.out.blk
      refine pz_bar 16 rfl (by kernel_rfl) (fun K hK => ?_)
      go_wp2_with fail
      refine hK (fun _ => True) _ _ ?_
      clear hK K
      have hS1 : True := trivial
      refine pz_take 17 (v := ?_) [] rfl (by kernel_rfl) (by kernel_rfl) (by kernel_rfl) (by kernel_rfl) (fun _ _ _ h => h) (by rfl) hS1 (fun w' hS' => ?_) ?_
      rotate_left
      · (try dsimp only at hS'); go_simp
        try with_reducible rfl
      simp only [Act.put, List.setIfInBounds_toArray, List.set_cons_zero, List.set_cons_succ]
      refine pz_take 18 (v := ?_) [] rfl (by kernel_rfl) (by kernel_rfl) (by kernel_rfl) (by kernel_rfl) (fun _ _ _ h => h) (by rfl) hS1 (fun w' hS' => ?_) ?_
      rotate_left
      · (try dsimp only at hS'); go_simp
        try with_reducible rfl
      simp only [Act.put, List.setIfInBounds_toArray, List.set_cons_zero, List.set_cons_succ]
      refine pz_step 19 rfl (by kernel_rfl) (fun K hK => ?_)
      go_wp2_with fail
      refine hK (fun _ => True) _ _ (fun _ _ => trivial) trivial ?_
      clear hK K
      refine pz_done (by kernel_rfl) ?_ _
      clear hS1 hfz hc2 hc3 hsbz
      go_wp2_with fail
      go_meet
      case rel =>
        obtain ⟨s5, f5⟩ := Se.acked ((G1.out.keep0 (Fr.refl F0 wc).drew)) k (by rw [HN.out]; exact G3.out.1.keep ((Fr.refl F0 wc).drew) (fun _ _ e => e)) G3.out.2
        rw [HK.out.2]
        exact InR.write (G1.out.keep0 (Fr.refl F0 wc).drew) (((Fr.refl F0 wc).drew).heap G2.out.1 (fun e => e)) (G2.out.2.1.keep0 (Fr.refl F0 wc).drew) G2.out.2.2.1.drew G2.out.2.2.2 s5 (f5.mono fun _ _ e => .inl e) (fun q hq => .inl (hq.elim .inl (fun hq => hq.elim (fun e => .inr (.inl (G3.out.2 q e))) (fun e => .inr (.inr e)))))
    · have hab' : ackB S1 F.known F.ack = false := by simpa using hab
      rw [hab']
      have HI4 := hid (ackSt_no hab')
      clear hab hab'
      go_wp2_with fail
      go_meet
      case rel => rw [HI4.out]; exact HI3.out
  case rest =>
  have HI5 := hid hcut
  clear hcut HI3
  have HS2 := hid (ackSt_ok HS1.out F.known F.ack)
  clear HNK HN HS1
  generalize ackSt S1 F.known F.ack = S2 at *
  obtain ⟨rv1, vs1, mb1, fv, g1, g2, g3, g4, g5⟩ := HI5.out
  have G1 := hid g1
  have G2 := hid (And.intro g2 (And.intro g3 (And.intro g4 g5)))
  have d2 : wc.cell? ⟨fb, 2, none⟩ = some (.int .i64 (F.seq : Int)) := by rw [cell_at g2]; rfl
  clear g1 g2 g3 g4 g5
  by_cases hq : F.seq = 0
  · have hq' : ((F.seq : Int) == 0) = true := by simp [hq]
    have HQ := hid hq
    clear hq
    go_wp2_with fail
    go_ret2
    exact HIN.out _ _ ⟨_, [], rv1, vs1, mb1, rfl, by rw [if_pos HQ.out]; exact G1.out.le (Nat.le_succ N), by rw [if_pos HQ.out]; exact Bl.nil _, G2.out.2.2.1, New.nil _ _ _, G2.out.2.2.2⟩
  · have hq' : ((F.seq : Int) == 0) = false := by simpa using hq
    have HQ := hid hq
    have hc7 : wc.cell? ⟨sb, 7, none⟩ = some (.bool S2.tell) := by rw [cell_at G1.out.blk]; rfl
    have hfz : wc.frozen? ⟨sb, 7, none⟩ = false := frozen_at G1.out.blk 7
    have HI6 : Hid (InR w (wc.setCell ⟨sb, 7, none⟩ (.bool true)) sb { S2 with tell := true } fb F rv mb N) := hid
      (InR.write G1.out G2.out.1 G2.out.2.1 G2.out.2.2.1 G2.out.2.2.2 (G1.out.setTell true) (((Fr.refl (fun q => q = sb) wc).setCell (p := ⟨sb, 7, none⟩) (fun _ => rfl) _).mono fun _ _ e => .inl e) (fun q hq => .inl hq))
    clear hq HI5
    go_upto_region 16 with fail
    clear d2 hc7 hfz hq'
    generalize wc.setCell _ _ = W3 at *
    have HE : Hid (earlySt S2 F.seq F.b = { S2 with tell := true, early := if S2.have_ < (F.seq : Int) ∧ (F.seq : Int) - S2.have_ ≤ 200 then eput S2.early F.seq F.b else S2.early }) := hid rfl
    clear G1 G2 rv1 vs1 mb1 fv
    obtain ⟨rv1, vs1, mb1, fv, g1, g2, g3, g4, g5⟩ := HI6.out
    have G1 := hid g1
    have G2 := hid (And.intro g2 (And.intro g3 (And.intro g4 g5)))
    have c5 : W3.cell? ⟨sb, 5, none⟩ = some (.int .i64 S2.have_) := by rw [cell_at g1.blk]; rfl
    have d2 : W3.cell? ⟨fb, 2, none⟩ = some (.int .i64 (F.seq : Int)) := by rw [cell_at g2]; rfl
    clear g1 g2 g3 g4 g5
    have ws : IntKind.i64.wrap ((F.seq : Int) - S2.have_) = (F.seq : Int) - S2.have_ := IntWalk.i64_in _ (by have := HS2.out.have_; have := HFB.out; omega)
    go_cut [126] (fun s wx => s = .bool (earlyB S2 F.seq) ∧ InR w wx sb { S2 with tell := true } fb F rv mb N)
    case first =>
      by_cases hb : S2.have_ < (F.seq : Int)
      · have hb' : decide (S2.have_ < (F.seq : Int)) = true := decide_eq_true hb
        have HAB : earlyB S2 F.seq = decide ((F.seq : Int) - S2.have_ ≤ 200) := by unfold earlyB; simp [hb]
        clear hb
        refine pz_start [] (fun w' => w'.heap = W3.heap) (by kernel_rfl) ?_
        have hS0 : W3.drew.heap = W3.heap := rfl
        have q5 : ∀ w' : World, w'.heap = W3.heap → w'.cell? ⟨sb, 5, none⟩ = some (.int .i64 S2.have_) := fun w' f => by rw [World.cell?_of_block (w := W3) (by rw [f])]; exact c5
        have r2 : ∀ w' : World, w'.heap = W3.heap → w'.cell? ⟨fb, 2, none⟩ = some (.int .i64 (F.seq : Int)) := fun w' f => by rw [World.cell?_of_block (w := W3) (by rw [f])]; exact d2
        refine pz_take 0 (v := ?_) [] rfl (by kernel_rfl) (by kernel_rfl) (by kernel_rfl) (by kernel_rfl) (fun _ _ _ h => h) (by rfl) hS0 (fun w' hS' => ?_) ?_
        rotate_left
        · (try dsimp only at hS'); go_simp
          try with_reducible rfl
        simp only [Act.put, List.setIfInBounds_toArray, List.set_cons_zero, List.set_cons_succ]
        refine pz_take 2 (v := ?_) [] rfl (by kernel_rfl) (by kernel_rfl) (by kernel_rfl) (by kernel_rfl) (fun _ _ _ h => h) (by rfl) hS0 (fun w' hS' => ?_) ?_
        rotate_left
        · (try dsimp only at hS'); go_simp
          try with_reducible rfl
        simp only [Act.put, List.setIfInBounds_toArray, List.set_cons_zero, List.set_cons_succ]
        refine pz_take 1 (v := ?_) [] rfl (by kernel_rfl) (by kernel_rfl) (by kernel_rfl) (by kernel_rfl) (fun _ _ _ h => h) (by rfl) hS0 (fun w' hS' => ?_) ?_
        rotate_left
        · (try dsimp only at hS'); go_simp
          try with_reducible rfl
        simp only [Act.put, List.setIfInBounds_toArray, List.set_cons_zero, List.set_cons_succ]
        refine pz_take 3 (v := ?_) [] rfl (by kernel_rfl) (by kernel_rfl) (by kernel_rfl) (by kernel_rfl) (fun _ _ _ h => h) (by rfl) hS0 (fun w' hS' => ?_) ?_
        rotate_left
        · (try dsimp only at hS'); go_simp
          try with_reducible rfl
        simp only [Act.put, List.setIfInBounds_toArray, List.set_cons_zero, List.set_cons_succ]
        refine pz_take 4 (v := ?_) [] rfl (by kernel_rfl) (by kernel_rfl) (by kernel_rfl) (by kernel_rfl) (fun _ _ _ h => h) (by rfl) hS0 (fun w' hS' => ?_) ?_
        rotate_left
        · (try dsimp only at hS'); go_simp
          try with_reducible rfl
        simp only [Act.put, List.setIfInBounds_toArray, List.set_cons_zero, List.set_cons_succ]
        refine pz_take 5 (v := ?_) [] rfl (by kernel_rfl) (by kernel_rfl) (by kernel_rfl) (by kernel_rfl) (fun _ _ _ h => h) (by rfl) hS0 (fun w' hS' => ?_) ?_
        rotate_left
        · (try dsimp only at hS'); go_simp
          try with_reducible rfl
        simp only [Act.put, List.setIfInBounds_toArray, List.set_cons_zero, List.set_cons_succ]
        refine pz_take 6 (v := ?_) [] rfl (by kernel_rfl) (by kernel_rfl) (by kernel_rfl) (by kernel_rfl) (fun _ _ _ h => h) (by rfl) hS0 (fun w' hS' => ?_) ?_
        rotate_left
        · (try dsimp only at hS'); go_simp
          try with_reducible rfl
        simp only [Act.put, List.setIfInBounds_toArray, List.set_cons_zero, List.set_cons_succ]
        refine pz_take 7 (v := ?_) [] rfl (by kernel_rfl) (by kernel_rfl) (by kernel_rfl) (by kernel_rfl) (fun _ _ _ h => h) (by rfl) hS0 (fun w' hS' => ?_) ?_
        rotate_left
        · (try dsimp only at hS'); go_simp
          try with_reducible rfl
        simp only [Act.put, List.setIfInBounds_toArray, List.set_cons_zero, List.set_cons_succ]
        refine pz_take 8 (v := ?_) [] rfl (by kernel_rfl) (by kernel_rfl) (by kernel_rfl) (by kernel_rfl) (fun _ _ _ h => h) (by rfl) hS0 (fun w' hS' => ?_) ?_
        rotate_left
        · (try dsimp only at hS'); go_simp
          try with_reducible rfl
        simp only [Act.put, List.setIfInBounds_toArray, List.set_cons_zero, List.set_cons_succ]
        refine pz_take 10 (v := ?_) [] rfl (by kernel_rfl) (by kernel_rfl) (by kernel_rfl) (by kernel_rfl) (fun _ _ _ h => h) (by rfl) hS0 (fun w' hS' => ?_) ?_
        rotate_left
        · (try dsimp only at hS'); go_simp
          try with_reducible rfl
        simp only [Act.put, List.setIfInBounds_toArray, List.set_cons_zero, List.set_cons_succ]
        refine pz_take 9 (v := ?_) [] rfl (by kernel_rfl) (by kernel_rfl) (by kernel_rfl) (by kernel_rfl) (fun _ _ _ h => h) (by rfl) hS0 (fun w' hS' => ?_) ?_
        rotate_left
        · (try dsimp only at hS'); go_simp
          try with_reducible rfl
        simp only [Act.put, List.setIfInBounds_toArray, List.set_cons_zero, List.set_cons_succ]
        refine pz_take 11 (v := ?_) [] rfl (by kernel_rfl) (by kernel_rfl) (by kernel_rfl) (by kernel_rfl) (fun _ _ _ h => h) (by rfl) hS0 (fun w' hS' => ?_) ?_
        rotate_left
        · (try dsimp only at hS'); go_simp
          try with_reducible rfl
        simp only [Act.put, List.setIfInBounds_toArray, List.set_cons_zero, List.set_cons_succ]
        refine pz_take 12 (v := ?_) [] rfl (by kernel_rfl) (by kernel_rfl) (by kernel_rfl) (by kernel_rfl) (fun _ _ _ h => h) (by rfl) hS0 (fun w' hS' => ?_) ?_
        rotate_left
        · (try dsimp only at hS'); go_simp
          try with_reducible rfl
        simp only [Act.put, List.setIfInBounds_toArray, List.set_cons_zero, List.set_cons_succ]
        refine pz_take 13 (v := ?_) [] rfl (by kernel_rfl) (by kernel_rfl) (by kernel_rfl) (by kernel_rfl) (fun _ _ _ h => h) (by rfl) hS0 (fun w' hS' => ?_) ?_
        rotate_left
        · (try dsimp only at hS'); go_simp
          try with_reducible rfl
        simp only [Act.put, List.setIfInBounds_toArray, List.set_cons_zero, List.set_cons_succ]
        refine pz_take 14 (v := ?_) [] rfl (by kernel_rfl) (by kernel_rfl) (by kernel_rfl) (by kernel_rfl) (fun _ _ _ h => h) (by rfl) hS0 (fun w' hS' => ?_) ?_
        rotate_left
        · (try dsimp only at hS'); go_simp
          try with_reducible rfl
        simp only [Act.put, List.setIfInBounds_toArray, List.set_cons_zero, List.set_cons_succ]
        refine pz_take 15 (v := ?_) [] rfl (by kernel_rfl) (by kernel_rfl) (by kernel_rfl) (by kernel_rfl) (fun _ _ _ h => h) (by rfl) hS0 (fun w' hS' => ?_) ?_
        rotate_left
        · (try dsimp only at hS'); go_simp
          try with_reducible rfl
        simp only [Act.put, List.setIfInBounds_toArray, List.set_cons_zero, List.set_cons_succ]
        refine pz_take 16 (v := ?_) [] rfl (by kernel_rfl) (by kernel_rfl) (by kernel_rfl) (by kernel_rfl) (fun _ _ _ h => h) (by rfl) hS0 (fun w' hS' => ?_) ?_
        rotate_left
        · (try dsimp only at hS'); go_simp
          try with_reducible rfl
        simp only [Act.put, List.setIfInBounds_toArray, List.set_cons_zero, List.set_cons_succ]
        refine pz_done (by kernel_rfl) ?_ _
        clear hS0 q5 r2
        go_wp2_with fail
        go_meet
        case rel => exact ⟨by rw [HAB], HI6.out.keep0 (Fr.refl _ _).drew⟩
      · have hb' : decide (S2.have_ < (F.seq : Int)) = false := decide_eq_false hb
        have HAB : earlyB S2 F.seq = false := by unfold earlyB; simp [hb]
        clear hb
        refine pz_start [] (fun w' => w'.heap = W3.heap) (by kernel_rfl) ?_
        have hS0 : W3.drew.heap = W3.heap := rfl
        have q5 : ∀ w' : World, w'.heap = W3.heap → w'.cell? ⟨sb, 5, none⟩ = some (.int .i64 S2.have_) := fun w' f => by rw [World.cell?_of_block (w := W3) (by rw [f])]; exact c5
        have r2 : ∀ w' : World, w'.heap = W3.heap → w'.cell? ⟨fb, 2, none⟩ = some (.int .i64 (F.seq : Int)) := fun w' f => by rw [World.cell?_of_block (w := W3) (by rw [f])]; exact d2
        refine pz_take 0 (v := ?_) [] rfl (by kernel_rfl) (by kernel_rfl) (by kernel_rfl) (by kernel_rfl) (fun _ _ _ h => h) (by rfl) hS0 (fun w' hS' => ?_) ?_
        rotate_left
        · (try dsimp only at hS'); go_simp
          try with_reducible rfl
        simp only [Act.put, List.setIfInBounds_toArray, List.set_cons_zero, List.set_cons_succ]
        refine pz_take 2 (v := ?_) [] rfl (by kernel_rfl) (by kernel_rfl) (by kernel_rfl) (by kernel_rfl) (fun _ _ _ h => h) (by rfl) hS0 (fun w' hS' => ?_) ?_
        rotate_left
        · (try dsimp only at hS'); go_simp
          try with_reducible rfl
        simp only [Act.put, List.setIfInBounds_toArray, List.set_cons_zero, List.set_cons_succ]
        refine pz_take 1 (v := ?_) [] rfl (by kernel_rfl) (by kernel_rfl) (by kernel_rfl) (by kernel_rfl) (fun _ _ _ h => h) (by rfl) hS0 (fun w' hS' => ?_) ?_
        rotate_left
        · (try dsimp only at hS'); go_simp
          try with_reducible rfl
        simp only [Act.put, List.setIfInBounds_toArray, List.set_cons_zero, List.set_cons_succ]
        refine pz_take 3 (v := ?_) [] rfl (by kernel_rfl) (by kernel_rfl) (by kernel_rfl) (by kernel_rfl) (fun _ _ _ h => h) (by rfl) hS0 (fun w' hS' => ?_) ?_
        rotate_left
        · (try dsimp only at hS'); go_simp
          try with_reducible rfl
        simp only [Act.put, List.setIfInBounds_toArray, List.set_cons_zero, List.set_cons_succ]
        refine pz_take 4 (v := ?_) [] rfl (by kernel_rfl) (by kernel_rfl) (by kernel_rfl) (by kernel_rfl) (fun _ _ _ h => h) (by rfl) hS0 (fun w' hS' => ?_) ?_
        rotate_left
        · (try dsimp only at hS'); go_simp
          try with_reducible rfl
        simp only [Act.put, List.setIfInBounds_toArray, List.set_cons_zero, List.set_cons_succ]
        refine pz_take 5 (v := ?_) [] rfl (by kernel_rfl) (by kernel_rfl) (by kernel_rfl) (by kernel_rfl) (fun _ _ _ h => h) (by rfl) hS0 (fun w' hS' => ?_) ?_
        rotate_left
        · (try dsimp only at hS'); go_simp
          try with_reducible rfl
        simp only [Act.put, List.setIfInBounds_toArray, List.set_cons_zero, List.set_cons_succ]
        refine pz_take 6 (v := ?_) [] rfl (by kernel_rfl) (by kernel_rfl) (by kernel_rfl) (by kernel_rfl) (fun _ _ _ h => h) (by rfl) hS0 (fun w' hS' => ?_) ?_
        rotate_left
        · (try dsimp only at hS'); go_simp
          try with_reducible rfl
        simp only [Act.put, List.setIfInBounds_toArray, List.set_cons_zero, List.set_cons_succ]
        refine pz_take 7 (v := ?_) [] rfl (by kernel_rfl) (by kernel_rfl) (by kernel_rfl) (by kernel_rfl) (fun _ _ _ h => h) (by rfl) hS0 (fun w' hS' => ?_) ?_
        rotate_left
        · (try dsimp only at hS'); go_simp
          try with_reducible rfl
        simp only [Act.put, List.setIfInBounds_toArray, List.set_cons_zero, List.set_cons_succ]
        refine pz_skip 8 [] rfl (by kernel_rfl) (by kernel_rfl) (by kernel_rfl) (by kernel_rfl) (fun _ _ _ h => h) (by rfl) hS0 ?_
        simp only [Act.put, List.setIfInBounds_toArray, List.set_cons_zero, List.set_cons_succ]
        refine pz_skip 10 [] rfl (by kernel_rfl) (by kernel_rfl) (by kernel_rfl) (by kernel_rfl) (fun _ _ _ h => h) (by rfl) hS0 ?_
        simp only [Act.put, List.setIfInBounds_toArray, List.set_cons_zero, List.set_cons_succ]
        refine pz_skip 9 [] rfl (by kernel_rfl) (by kernel_rfl) (by kernel_rfl) (by kernel_rfl) (fun _ _ _ h => h) (by rfl) hS0 ?_
        simp only [Act.put, List.setIfInBounds_toArray, List.set_cons_zero, List.set_cons_succ]
        refine pz_skip 11 [] rfl (by kernel_rfl) (by kernel_rfl) (by kernel_rfl) (by kernel_rfl) (fun _ _ _ h => h) (by rfl) hS0 ?_
        simp only [Act.put, List.setIfInBounds_toArray, List.set_cons_zero, List.set_cons_succ]
        refine pz_skip 12 [] rfl (by kernel_rfl) (by kernel_rfl) (by kernel_rfl) (by kernel_rfl) (fun _ _ _ h => h) (by rfl) hS0 ?_
        simp only [Act.put, List.setIfInBounds_toArray, List.set_cons_zero, List.set_cons_succ]
        refine pz_skip 13 [] rfl (by kernel_rfl) (by kernel_rfl) (by kernel_rfl) (by kernel_rfl) (fun _ _ _ h => h) (by rfl) hS0 ?_
        simp only [Act.put, List.setIfInBounds_toArray, List.set_cons_zero, List.set_cons_succ]
        refine pz_skip 14 [] rfl (by kernel_rfl) (by kernel_rfl) (by kernel_rfl) (by kernel_rfl) (fun _ _ _ h => h) (by rfl) hS0 ?_
        simp only [Act.put, List.setIfInBounds_toArray, List.set_cons_zero, List.set_cons_succ]
        refine pz_skip 15 [] rfl (by kernel_rfl) (by kernel_rfl) (by kernel_rfl) (by kernel_rfl) (fun _ _ _ h => h) (by rfl) hS0 ?_
        simp only [Act.put, List.setIfInBounds_toArray, List.set_cons_zero, List.set_cons_succ]
        refine pz_take 16 (v := ?_) [] rfl (by kernel_rfl) (by kernel_rfl) (by kernel_rfl) (by kernel_rfl) (fun _ _ _ h => h) (by rfl) hS0 (fun w' hS' => ?_) ?_
        rotate_left
        · (try dsimp only at hS'); go_simp
          try with_reducible rfl
        simp only [Act.put, List.setIfInBounds_toArray, List.set_cons_zero, List.set_cons_succ]
        refine pz_done (by kernel_rfl) ?_ _
        clear hS0 q5 r2
        go_wp2_with fail
        go_meet
        case rel => exact ⟨by rw [HAB], HI6.out.keep0 (Fr.refl _ _).drew⟩
    case rest =>
    obtain ⟨rfl, hcut⟩ := hcut
    have HI7 := hid hcut
    clear hcut HI6 G1 G2 c5 d2 ws rv1 vs1 mb1 fv
    go_upto_if 126 with fail
    go_cut [] (fun wx => InR w wx sb (earlySt S2 F.seq F.b) fb F rv mb (N + 1))
    case first =>
      by_cases hab : earlyB S2 F.seq = true
      · rw [hab]
        have HAB := hid (of_decide_eq_true hab : _ ∧ _)
        clear hab
        go_wp2_with fail
        obtain ⟨rv1, vs1, mb1, fv, g1, g2, g3, g4, g5⟩ := HI7.out
        obtain ⟨ua, uc, rfl⟩ := g3.form
        have G1 := hid g1
        have G2 := hid (And.intro g2 (And.intro g3 (And.intro g4 g5)))
        clear g1 g2 g3 g4 g5
        refine pz_start [8] (fun w' => w'.heap = wc.heap) (by kernel_rfl) ?_
        have hS0 : wc.drew.heap = wc.heap := rfl
        have q6 : ∀ w' : World, w'.heap = wc.heap → w'.cell? ⟨sb, 6, none⟩ = some (.map (some mb1)) := fun w' f => by rw [World.cell?_of_block (w := wc) (by rw [f]), cell_at G1.out.blk]; rfl
        have r2 : ∀ w' : World, w'.heap = wc.heap → w'.cell? ⟨fb, 2, none⟩ = some (.int .i64 (F.seq : Int)) := fun w' f => by rw [World.cell?_of_block (w := wc) (by rw [f]), cell_at G2.out.1]; rfl
        have r4 : ∀ w' : World, w'.heap = wc.heap → w'.cell? ⟨fb, 4, none⟩ = some (.slice ua F.b.length uc) := fun w' f => by rw [World.cell?_of_block (w := wc) (by rw [f]), cell_at G2.out.1]; rfl
        refine pz_take 0 (v := ?_) [[0]] rfl (by kernel_rfl) (by kernel_rfl) (by kernel_rfl) (by kernel_rfl) (fun _ _ _ h => h) (by rfl) hS0 (fun w' hS' => ?_) ?_
        rotate_left
        · (try dsimp only at hS'); go_simp
          try with_reducible rfl
        simp only [Act.put, List.setIfInBounds_toArray, List.set_cons_zero, List.set_cons_succ]
        refine pz_take 4 (v := ?_) [[4]] rfl (by kernel_rfl) (by kernel_rfl) (by kernel_rfl) (by kernel_rfl) (fun _ _ _ h => h) (by rfl) hS0 (fun w' hS' => ?_) ?_
        rotate_left
        · (try dsimp only at hS'); go_simp
          try with_reducible rfl
        simp only [Act.put, List.setIfInBounds_toArray, List.set_cons_zero, List.set_cons_succ]
        refine pz_take 6 (v := ?_) [[6]] rfl (by kernel_rfl) (by kernel_rfl) (by kernel_rfl) (by kernel_rfl) (fun _ _ _ h => h) (by rfl) hS0 (fun w' hS' => ?_) ?_
        rotate_left
        · (try dsimp only at hS'); go_simp
          try with_reducible rfl
        simp only [Act.put, List.setIfInBounds_toArray, List.set_cons_zero, List.set_cons_succ]
        refine pz_take 1 (v := ?_) [[1]] rfl (by kernel_rfl) (by kernel_rfl) (by kernel_rfl) (by kernel_rfl) (fun _ _ _ h => h) (by rfl) hS0 (fun w' hS' => ?_) ?_
        rotate_left
        · (try dsimp only at hS'); go_simp
          try with_reducible rfl
        simp only [Act.put, List.setIfInBounds_toArray, List.set_cons_zero, List.set_cons_succ]
        refine pz_take 5 (v := ?_) [[5]] rfl (by kernel_rfl) (by kernel_rfl) (by kernel_rfl) (by kernel_rfl) (fun _ _ _ h => h) (by rfl) hS0 (fun w' hS' => ?_) ?_
        rotate_left
        · (try dsimp only at hS'); go_simp
          try with_reducible rfl
        simp only [Act.put, List.setIfInBounds_toArray, List.set_cons_zero, List.set_cons_succ]
        refine pz_take 7 (v := ?_) [[7]] rfl (by kernel_rfl) (by kernel_rfl) (by kernel_rfl) (by kernel_rfl) (fun _ _ _ h => h) (by rfl) hS0 (fun w' hS' => ?_) ?_
        rotate_left
        · (try dsimp only at hS'); go_simp
          try with_reducible rfl
        simp only [Act.put, List.setIfInBounds_toArray, List.set_cons_zero, List.set_cons_succ]
        refine pz_take 2 (v := ?_) [[2]] rfl (by kernel_rfl) (by kernel_rfl) (by kernel_rfl) (by kernel_rfl) (fun _ _ _ h => h) (by rfl) hS0 (fun w' hS' => ?_) ?_
        rotate_left
        · (try dsimp only at hS'); go_simp
          try with_reducible rfl
        simp only [Act.put, List.setIfInBounds_toArray, List.set_cons_zero, List.set_cons_succ]
        refine pz_take 3 (v := ?_) [[3]] rfl (by kernel_rfl) (by kernel_rfl) (by kernel_rfl) (by kernel_rfl) (fun _ _ _ h => h) (by rfl) hS0 (fun w' hS' => ?_) ?_
        rotate_left
        · (try dsimp only at hS'); go_simp
          try with_reducible rfl
        simp only [Act.put, List.setIfInBounds_toArray, List.set_cons_zero, List.set_cons_succ]
        clear hS0 q6 r2 r4
        refine pz_bar 8 rfl (by kernel_rfl) (fun K hK => ?_)
        go_wp2_with (refine wpList_emPut (.tmp 130) (.tmp 132) (.tmp 134) rfl (F.seq : Int) (.slice ua F.b.length uc) F.b rfl rfl rfl (G1.out.keep0 (Fr.refl F0 wc).drew).em ?wf (G2.out.2.1.keep0 (Fr.refl F0 wc).drew) ?nn rfl ?_)
        case wf => exact wf64 (by have := HFB.out; omega)
        case nn => have := HNN.out; omega
        intro W5 em5 f5
        have HP := hid (And.intro ((G1.out.keep0 (Fr.refl F0 wc).drew).stored em5 f5) f5)
        clear em5 f5
        go_wp2_with fail
        refine hK (fun _ => True) _ _ ?_
        clear hK K
        refine pz_done (by kernel_rfl) ?_ _
        go_wp2_with fail
        go_meet
        case rel =>
          have he : earlySt S2 F.seq F.b = { S2 with tell := true, early := eput S2.early F.seq F.b } := by unfold earlySt; rw [if_pos HAB.out]
          rw [he]
          exact InR.write (G1.out.keep0 (Fr.refl F0 wc).drew) (((Fr.refl F0 wc).drew).heap G2.out.1 (fun e => e)) (G2.out.2.1.keep0 (Fr.refl F0 wc).drew) G2.out.2.2.1.drew G2.out.2.2.2 HP.out.1 (HP.out.2.mono fun _ _ e => .inr (.inr e)) (fun q hq => .inl hq)
      · have hab' : earlyB S2 F.seq = false := by simpa using hab
        rw [hab']
        have HAB := hid hab'
        clear hab hab'
        go_wp2_with fail
        go_meet
        case rel =>
          obtain ⟨rv1, vs1, mb1, fv, g1, g2, g3, g4, g5⟩ := HI7.out
          exact ⟨rv1, vs1, mb1, fv, by rw [earlySt_no HAB.out]; exact g1.le (Nat.le_succ N), g2, g3, g4, g5⟩
    case rest =>
    have HI8 := hid hcut
    have HS3 := hid (earlySt_ok HS2.out F.seq F.b ⟨by have := HFB.out; omega, HFB.out.2.2.2.2.2⟩)
    clear hcut HI7 HE
    have HT : Hid (∀ w' e, (∃ r us rv' vs' mb', e = .returned (.tuple #[r, .int .i64 0]) ∧ Se w' sb (takeSt (earlySt S2 F.seq F.b)).1 rv' vs' mb' (N + 1) ∧ Bl w' r us (takeSt (earlySt S2 F.seq F.b)).2 ∧ Fr (SeM sb rv mb) w w' ∧ New w r ∧ (∀ k, SeM sb rv' mb' k → SeM sb rv mb k ∨ w.heap.size ≤ k)) → InTo w sb S rv mb N (some F) e w') :=
      hid (fun w' e h => HIN.out w' e (by unfold InT; rw [if_neg HQ.out]; exact h))
    clear HIN HS2 HFB
    generalize earlySt S2 F.seq F.b = S3 at *
    have HD := hid (DrK.start HI8.out HS3.out)
    have HEL : Hid (S3.early.length ≤ N + 1) := hid (by obtain ⟨rv, vs, mb, fv, h1, _⟩ := HI8.out; obtain ⟨D, n, _, hle, _⟩ := h1.em; exact hle.2)
    go_wp2_with fail
    go_loopg [6] S3.early.length (fun gh x wr => (∃ a n c, x = .slice a n c) ∧ Hid (DrK w wr sb S3 rv mb (N + 1) x gh))
    case atStart => exact ⟨⟨_, _, _, rfl⟩, HD⟩
    case round =>
      clear HD HI8
      obtain ⟨⟨xa, xn, xc, rfl⟩, HK⟩ := hrel
      obtain ⟨h, E, os, us, rv1, vs1, mb1, k1, k2, k3, k4, s1, b1, k5, f1, n1, o1, dr⟩ := HK.out
      have ws : IntKind.i64.wrap (h + 1) = h + 1 := IntWalk.i64_in _ (by omega)
      have wf := wf64 (k := h + 1) (by omega)
      obtain ⟨bv, hlook, hbv⟩ := (s1.em.keep0 (Fr.refl F0 wr).drew).look (h + 1) wf
      have c6 : wr.drew.cell? ⟨sb, 6, none⟩ = some (.map (some mb1)) := by rw [cell_at (s1.keep0 (Fr.refl F0 wr).drew).blk]; rfl
      have c5 : wr.drew.cell? ⟨sb, 5, none⟩ = some (.int .i64 h) := by rw [cell_at (s1.keep0 (Fr.refl F0 wr).drew).blk]; rfl
      have K1 := hid (And.intro k1 (And.intro k2 (And.intro k3 k4)))
      have SE := hid (s1.keep0 (Fr.refl F0 wr).drew)
      have B1 := hid (b1.keep0 (Fr.refl F0 wr).drew)
      have R1 := hid (And.intro k5 (And.intro f1.drew (And.intro n1 (And.intro o1 dr))))
      have BV := hid hbv
      have WF := hid wf
      clear k1 k2 k3 k4 s1 b1 k5 f1 n1 o1 dr hbv wf HK
      go_wp2_with fail
      refine pz_start [] (fun w' => w' = wr.drew) (by kernel_rfl) ?_
      have hS0 : wr.drew = wr.drew := rfl
      obtain ⟨bs, HBS⟩ : ∃ bs, Hid ((eget E (h + 1)).isSome = bs) := ⟨_, hid rfl⟩
      rw [HBS.out] at hlook
      refine pz_take 0 (v := ?_) [] rfl (by kernel_rfl) (by kernel_rfl) (by kernel_rfl) (by kernel_rfl) (fun _ _ _ h => h) (by rfl) hS0 (fun w' hS' => ?_) ?_
      rotate_left
      · subst hS'; go_simp
        try with_reducible rfl
      simp only [Act.put, List.setIfInBounds_toArray, List.set_cons_zero, List.set_cons_succ]
      refine pz_take 4 (v := ?_) [] rfl (by kernel_rfl) (by kernel_rfl) (by kernel_rfl) (by kernel_rfl) (fun _ _ _ h => h) (by rfl) hS0 (fun w' hS' => ?_) ?_
      rotate_left
      · subst hS'; go_simp
        try with_reducible rfl
      simp only [Act.put, List.setIfInBounds_toArray, List.set_cons_zero, List.set_cons_succ]
      refine pz_take 1 (v := ?_) [] rfl (by kernel_rfl) (by kernel_rfl) (by kernel_rfl) (by kernel_rfl) (fun _ _ _ h => h) (by rfl) hS0 (fun w' hS' => ?_) ?_
      rotate_left
      · subst hS'; go_simp
        try with_reducible rfl
      simp only [Act.put, List.setIfInBounds_toArray, List.set_cons_zero, List.set_cons_succ]
      refine pz_take 5 (v := ?_) [] rfl (by kernel_rfl) (by kernel_rfl) (by kernel_rfl) (by kernel_rfl) (fun _ _ _ h => h) (by rfl) hS0 (fun w' hS' => ?_) ?_
      rotate_left
      · subst hS'; go_simp
        try with_reducible rfl
      simp only [Act.put, List.setIfInBounds_toArray, List.set_cons_zero, List.set_cons_succ]
      refine pz_take 2 (v := ?_) [] rfl (by kernel_rfl) (by kernel_rfl) (by kernel_rfl) (by kernel_rfl) (fun _ _ _ h => h) (by rfl) hS0 (fun w' hS' => ?_) ?_
      rotate_left
      · subst hS'; go_simp
        try with_reducible rfl
      simp only [Act.put, List.setIfInBounds_toArray, List.set_cons_zero, List.set_cons_succ]
      refine pz_take 6 (v := ?_) [] rfl (by kernel_rfl) (by kernel_rfl) (by kernel_rfl) (by kernel_rfl) (fun _ _ _ h => h) (by rfl) hS0 (fun w' hS' => ?_) ?_
      rotate_left
      · subst hS'; go_simp
        try with_reducible rfl
      simp only [Act.put, List.setIfInBounds_toArray, List.set_cons_zero, List.set_cons_succ]
      refine pz_take 3 (v := ?_) [] rfl (by kernel_rfl) (by kernel_rfl) (by kernel_rfl) (by kernel_rfl) (fun _ _ _ h => h) (by rfl) hS0 (fun w' hS' => ?_) ?_
      rotate_left
      · subst hS'; go_simp
        try with_reducible rfl
      simp only [Act.put, List.setIfInBounds_toArray, List.set_cons_zero, List.set_cons_succ]
      refine pz_take 7 (v := ?_) [] rfl (by kernel_rfl) (by kernel_rfl) (by kernel_rfl) (by kernel_rfl) (fun _ _ _ h => h) (by rfl) hS0 (fun w' hS' => ?_) ?_
      rotate_left
      · subst hS'; go_simp
        try with_reducible rfl
      simp only [Act.put, List.setIfInBounds_toArray, List.set_cons_zero, List.set_cons_succ]
      refine pz_take 8 (v := ?_) [] rfl (by kernel_rfl) (by kernel_rfl) (by kernel_rfl) (by kernel_rfl) (fun _ _ _ h => h) (by rfl) hS0 (fun w' hS' => ?_) ?_
      rotate_left
      · subst hS'; go_simp
        try with_reducible rfl
      simp only [Act.put, List.setIfInBounds_toArray, List.set_cons_zero, List.set_cons_succ]
      refine pz_take 9 (v := ?_) [] rfl (by kernel_rfl) (by kernel_rfl) (by kernel_rfl) (by kernel_rfl) (fun _ _ _ h => h) (by rfl) hS0 (fun w' hS' => ?_) ?_
      rotate_left
      · subst hS'; go_simp
        try with_reducible rfl
      simp only [Act.put, List.setIfInBounds_toArray, List.set_cons_zero, List.set_cons_succ]
      refine pz_take 10 (v := ?_) [] rfl (by kernel_rfl) (by kernel_rfl) (by kernel_rfl) (by kernel_rfl) (fun _ _ _ h => h) (by rfl) hS0 (fun w' hS' => ?_) ?_
      rotate_left
      · subst hS'; go_simp
        try with_reducible rfl
      simp only [Act.put, List.setIfInBounds_toArray, List.set_cons_zero, List.set_cons_succ]
      refine pz_take 11 (v := ?_) [] rfl (by kernel_rfl) (by kernel_rfl) (by kernel_rfl) (by kernel_rfl) (fun _ _ _ h => h) (by rfl) hS0 (fun w' hS' => ?_) ?_
      rotate_left
      · subst hS'; go_simp
        try with_reducible rfl
      simp only [Act.put, List.setIfInBounds_toArray, List.set_cons_zero, List.set_cons_succ]
      refine pz_take 12 (v := ?_) [] rfl (by kernel_rfl) (by kernel_rfl) (by kernel_rfl) (by kernel_rfl) (fun _ _ _ h => h) (by rfl) hS0 (fun w' hS' => ?_) ?_
      rotate_left
      · subst hS'; go_simp
        try with_reducible rfl
      simp only [Act.put, List.setIfInBounds_toArray, List.set_cons_zero, List.set_cons_succ]
      refine pz_take 13 (v := ?_) [] rfl (by kernel_rfl) (by kernel_rfl) (by kernel_rfl) (by kernel_rfl) (fun _ _ _ h => h) (by rfl) hS0 (fun w' hS' => ?_) ?_
      rotate_left
      · subst hS'; go_simp
        try with_reducible rfl
      simp only [Act.put, List.setIfInBounds_toArray, List.set_cons_zero, List.set_cons_succ]
      refine pz_take 14 (v := ?_) [] rfl (by kernel_rfl) (by kernel_rfl) (by kernel_rfl) (by kernel_rfl) (fun _ _ _ h => h) (by rfl) hS0 (fun w' hS' => ?_) ?_
      rotate_left
      · subst hS'; go_simp
        try with_reducible rfl
      simp only [Act.put, List.setIfInBounds_toArray, List.set_cons_zero, List.set_cons_succ]
      clear hS0 hlook c6
      refine pz_done (by kernel_rfl) ?_ _
      cases hg : eget E (h + 1) with
      | none =>
        rw [hg] at HBS
        obtain rfl : bs = false := HBS.out.symm
        clear c5 ws
        go_wp2_with fail
        go_ret2
        have hd := drain_none hg E.length
        have hf := R1.out.2.2.2.2
        rw [hd, List.append_nil] at hf
        exact HT.out _ _ ⟨_, us, rv1, vs1, mb1, rfl, by unfold takeSt; rw [hf]; exact SE.out, by unfold takeSt; rw [hf]; exact B1.out, R1.out.2.1, R1.out.2.2.1, R1.out.2.2.2.1⟩
      | some b =>
        rw [hg] at HBS
        obtain rfl : bs = true := HBS.out.symm
        obtain ⟨ba, bc, rfl⟩ := (BV.out b hg).form
        have HG := hid hg
        have hfz : wr.drew.frozen? ⟨sb, 5, none⟩ = false := frozen_at SE.out.blk 5
        clear hg
        have SE2 : Hid (Se (wr.setCell ⟨sb, 5, none⟩ (.int .i64 (h + 1))).drew sb { S3 with have_ := h + 1, early := E } rv1 vs1 mb1 (N + 1)) := hid (SE.out.haved (h + 1))
        have F4 : Hid (Fr (fun q => q = sb) wr.drew (wr.setCell ⟨sb, 5, none⟩ (.int .i64 (h + 1))).drew) := hid ((Fr.refl (fun q => q = sb) wr.drew).setCell (p := ⟨sb, 5, none⟩) (fun _ => rfl) _)
        go_upto_region 22 with fail
        clear c5 ws hfz
        refine pz_start [8] (fun w' => w'.heap = (wr.setCell ⟨sb, 5, none⟩ (.int .i64 (h + 1))).drew.heap) (by kernel_rfl) ?_
        generalize (wr.setCell ⟨sb, 5, none⟩ (.int .i64 (h + 1))).drew = W4 at *
        have hS0 : W4.drew.heap = W4.heap := rfl
        have q6 : ∀ w' : World, w'.heap = W4.heap → w'.cell? ⟨sb, 6, none⟩ = some (.map (some mb1)) := fun w' f => by rw [World.cell?_of_block (w := W4) (by rw [f]), cell_at SE2.out.blk]; rfl
        have q5 : ∀ w' : World, w'.heap = W4.heap → w'.cell? ⟨sb, 5, none⟩ = some (.int .i64 (h + 1)) := fun w' f => by rw [World.cell?_of_block (w := W4) (by rw [f]), cell_at SE2.out.blk]; rfl
        refine pz_take 0 (v := ?_) [[3, 2, 1, 0]] rfl (by kernel_rfl) (by kernel_rfl) (by kernel_rfl) (by kernel_rfl) (fun _ _ _ h => h) (by rfl) hS0 (fun w' hS' => ?_) ?_
        rotate_left
        · (try dsimp only at hS'); go_simp
          try with_reducible rfl
        simp only [Act.put, List.setIfInBounds_toArray, List.set_cons_zero, List.set_cons_succ]
        refine pz_take 4 (v := ?_) [[7, 6, 5, 4]] rfl (by kernel_rfl) (by kernel_rfl) (by kernel_rfl) (by kernel_rfl) (fun _ _ _ h => h) (by rfl) hS0 (fun w' hS' => ?_) ?_
        rotate_left
        · (try dsimp only at hS'); go_simp
          try with_reducible rfl
        simp only [Act.put, List.setIfInBounds_toArray, List.set_cons_zero, List.set_cons_succ]
        refine pz_take 1 (v := ?_) [[3, 2, 1]] rfl (by kernel_rfl) (by kernel_rfl) (by kernel_rfl) (by kernel_rfl) (fun _ _ _ h => h) (by rfl) hS0 (fun w' hS' => ?_) ?_
        rotate_left
        · (try dsimp only at hS'); go_simp
          try with_reducible rfl
        simp only [Act.put, List.setIfInBounds_toArray, List.set_cons_zero, List.set_cons_succ]
        refine pz_take 5 (v := ?_) [[7, 6, 5]] rfl (by kernel_rfl) (by kernel_rfl) (by kernel_rfl) (by kernel_rfl) (fun _ _ _ h => h) (by rfl) hS0 (fun w' hS' => ?_) ?_
        rotate_left
        · (try dsimp only at hS'); go_simp
          try with_reducible rfl
        simp only [Act.put, List.setIfInBounds_toArray, List.set_cons_zero, List.set_cons_succ]
        refine pz_take 2 (v := ?_) [[3, 2]] rfl (by kernel_rfl) (by kernel_rfl) (by kernel_rfl) (by kernel_rfl) (fun _ _ _ h => h) (by rfl) hS0 (fun w' hS' => ?_) ?_
        rotate_left
        · (try dsimp only at hS'); go_simp
          try with_reducible rfl
        simp only [Act.put, List.setIfInBounds_toArray, List.set_cons_zero, List.set_cons_succ]
        refine pz_take 6 (v := ?_) [[7, 6]] rfl (by kernel_rfl) (by kernel_rfl) (by kernel_rfl) (by kernel_rfl) (fun _ _ _ h => h) (by rfl) hS0 (fun w' hS' => ?_) ?_
        rotate_left
        · (try dsimp only at hS'); go_simp
          try with_reducible rfl
        simp only [Act.put, List.setIfInBounds_toArray, List.set_cons_zero, List.set_cons_succ]
        refine pz_take 3 (v := ?_) [[3]] rfl (by kernel_rfl) (by kernel_rfl) (by kernel_rfl) (by kernel_rfl) (fun _ _ _ h => h) (by rfl) hS0 (fun w' hS' => ?_) ?_
        rotate_left
        · (try dsimp only at hS'); go_simp
          try with_reducible rfl
        simp only [Act.put, List.setIfInBounds_toArray, List.set_cons_zero, List.set_cons_succ]
        refine pz_take 7 (v := ?_) [[7]] rfl (by kernel_rfl) (by kernel_rfl) (by kernel_rfl) (by kernel_rfl) (fun _ _ _ h => h) (by rfl) hS0 (fun w' hS' => ?_) ?_
        rotate_left
        · (try dsimp only at hS'); go_simp
          try with_reducible rfl
        simp only [Act.put, List.setIfInBounds_toArray, List.set_cons_zero, List.set_cons_succ]
        clear hS0 q6 q5
        have SE3 := hid (SE2.out.keep0 (Fr.refl F0 W4).drew)
        refine pz_bar 8 rfl (by kernel_rfl) (fun K hK => ?_)
        go_wp2_with (refine wpList_emDel (.tmp 161) (.tmp 165) rfl (h + 1) rfl rfl SE3.out.em WF.out rfl ?_)
        intro W5 em5 f5
        have SE5 := hid (SE3.out.stored em5 f5)
        have F5 := hid (Fr.trans (S := SeM sb rv1 mb1) (F4.out.mono fun _ _ e => .inl e) (Fr.trans (S := SeM sb rv1 mb1) ((Fr.refl F0 W4).drew.mono fun _ _ e => e.elim) f5 (fun _ _ e => .inr (.inr e))) (fun _ _ e => e))
        clear em5 f5 SE2 SE3 F4
        go_wp2_with fail
        refine hK (fun _ => True) _ _ ?_
        clear hK K
        refine pz_done (by kernel_rfl) ?_ _
        have HBV := hid ((BV.out b HG.out).keep F5.out SE.out.nb)
        have B5 := hid (B1.out.keep F5.out (fun q hq e => SE.out.notBl B1.out q hq e) SE.out.nb)
        have HBL : Hid (b.length ≤ 70368744177664) := hid (by have := (K1.out.2.2.2 _ (eget_mem HG.out)).2; dsimp only at this; omega)
        go_wp2_with fail
        refine (bclone_c _ b _ HBV.out.1 HBL.out).mono ?_
        rintro e W6 ⟨r6, rfl, o6, f6, n6⟩
        obtain ⟨a6, m6, c6, rfl⟩ := o6.form
        have O6 := hid (Rt.of_ob o6)
        have F6 := hid f6
        clear o6 f6 n6
        have FA := hid (F0.and F6.out ((Fr.refl F0 W6).alloc (.cells #[.slice a6 m6 c6] 25)))
        have HUS := hid (B5.out.keep0 FA.out)
        have HLEN : Hid (os.length ≤ 1000000) := hid (by have := R1.out.1; have := HEL.out; have := HNN.out; omega)
        go_wp2_with (refine wpList_appL (.tmp 166) (.tmp 169) rfl _ (.slice a6 m6 c6) us _ b W6.heap.size 25 (0, 0) rfl rfl (heap_alloc_last _ _) HUS.out (O6.out.keep0 ((Fr.refl F0 W6).alloc _)) HLEN.out rfl ?_)
        intro v7 W7 b7 g7 e7
        obtain ⟨va7, vm7, vc7, rfl⟩ := b7.formS
        have HDK := hid (DrK.next HG.out K1.out R1.out SE5.out F5.out FA.out B5.out b7 g7 (fun q hq => (e7 q hq).imp id (fun e => by simpa using e)))
        clear b7 g7 e7
        go_wp2_with fail
        go_roundg (gk - 1)
        case measure => have h1 := K1.out.1; have h2 := edel_len HG.out; omega
        case rel => exact ⟨⟨_, _, _, rfl⟩, HDK⟩

end Go.Proofs.Ytfalaopljodmnaa
