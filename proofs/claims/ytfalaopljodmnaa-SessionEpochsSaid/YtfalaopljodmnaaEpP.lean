/- linnetlaw20.SessionEpochs: what the two sessions become, tick by tick. No walk. -/
import Derived.Test.YtfalaopljodmnaaSesY
namespace Go.Proofs.Ytfalaopljodmnaa

def em (c : UInt8) (i : Nat) : List UInt8 := [c, UInt8.ofNat i]

/-- k messages from p on, not sent. -/
def ems (c : UInt8) : Nat → Nat → List Msg
  | _, 0 => []
  | p, k + 1 => ⟨em c p, false, 0⟩ :: ems c (p + 1) k

/-- .. sent. -/
def emt (c : UInt8) (t : Int) : Nat → Nat → List Msg
  | _, 0 => []
  | p, k + 1 => ⟨em c p, true, t⟩ :: emt c t (p + 1) k

/-- Their bytes. -/
def emb (c : UInt8) : Nat → Nat → List (List UInt8)
  | _, 0 => []
  | p, k + 1 => em c p :: emb c (p + 1) k

/-- Their frames' fields. -/
def emf (S : St) (c : UInt8) : Int → Nat → Nat → List Flds
  | _, _, 0 => []
  | q, p, k + 1 => mkF S q (em c p) :: emf S c (q + 1) (p + 1) k

theorem ems_len (c : UInt8) : ∀ k p, (ems c p k).length = k
  | 0, _ => rfl
  | k + 1, p => by simp [ems, ems_len c k (p + 1)]
theorem emt_len (c : UInt8) (t : Int) : ∀ k p, (emt c t p k).length = k
  | 0, _ => rfl
  | k + 1, p => by simp [emt, emt_len c t k (p + 1)]
theorem emb_len (c : UInt8) : ∀ k p, (emb c p k).length = k
  | 0, _ => rfl
  | k + 1, p => by simp [emb, emb_len c k (p + 1)]

theorem ems_app (c : UInt8) : ∀ r k p, ems c p (r + k) = ems c p r ++ ems c (p + r) k
  | 0, k, p => by simp [ems]
  | r + 1, k, p => by
    rw [show r + 1 + k = r + k + 1 from by omega]
    simp only [ems, List.cons_append, ems_app c r k (p + 1)]
    rw [show p + 1 + r = p + (r + 1) from by omega]

theorem emb_app (c : UInt8) : ∀ r k p, emb c p (r + k) = emb c p r ++ emb c (p + r) k
  | 0, k, p => by simp [emb]
  | r + 1, k, p => by
    rw [show r + 1 + k = r + k + 1 from by omega]
    simp only [emb, List.cons_append, emb_app c r k (p + 1)]
    rw [show p + 1 + r = p + (r + 1) from by omega]

theorem ems_snoc (c : UInt8) (k : Nat) : ems c 0 k ++ [⟨em c k, false, 0⟩] = ems c 0 (k + 1) := by
  rw [ems_app c k 1 0]; simp [ems]

theorem emb_get (c : UInt8) : ∀ (k p i : Nat), i < k → (emb c p k)[i]? = some (em c (p + i))
  | 0, _, _, h => by omega
  | k + 1, p, 0, _ => by simp [emb]
  | k + 1, p, i + 1, h => by
    simp only [emb, List.getElem?_cons_succ]
    rw [emb_get c k (p + 1) i (by omega), show p + 1 + i = p + (i + 1) from by omega]

theorem frs_ems (S : St) (now : Int) (c : UInt8) : ∀ (k p : Nat) (q : Int), frsF S now q (ems c p k) = emf S c q p k ∧ (frs S now q (ems c p k)).length = k ∧ (ems c p k).map (updM S now) = emt c now p k
  | 0, _, _ => ⟨rfl, rfl, rfl⟩
  | k + 1, p, q => by
    have ih := frs_ems S now c k (p + 1) (q + 1)
    have hd : due S now ⟨em c p, false, 0⟩ = true := by simp [due]
    simp only [ems, frsF, frs, hd, if_true, emf, emt, List.map_cons, List.length_cons, updM, ih.1, ih.2.1]
    exact ⟨trivial, trivial, by rw [← ih.2.2]⟩

/-- Out over messages that were not sent. -/
theorem out_ems (S : St) (now : Int) (c : UInt8) (p r k : Nat) (hl : S.l = ems c p (r + k)) (hr : r = 8 ∨ r ≤ 8 ∧ k = 0) :
    (outSt S now).1 = { S with l := emt c now p r ++ ems c (p + r) k, tell := false } ∧ outFl S now = if r = 0 ∧ S.tell = true then [mkF S 0 []] else emf S c S.first p r := by
  have ht : S.l.take 8 = ems c p r := by
    rw [hl, ems_app]
    rcases hr with rfl | ⟨hr, rfl⟩
    · exact List.take_left' (ems_len c 8 p)
    · simp only [ems, List.append_nil]; exact List.take_of_length_le (by rw [ems_len]; omega)
  have hd : S.l.drop 8 = ems c (p + r) k := by
    rw [hl, ems_app]
    rcases hr with rfl | ⟨hr, rfl⟩
    · exact List.drop_left' (ems_len c 8 p)
    · simp only [ems, List.append_nil]; exact List.drop_eq_nil_of_le (by rw [ems_len]; omega)
  have h := frs_ems S now c r p S.first
  constructor
  · simp only [outSt, outL, ht, hd, h.2.2]
  · unfold outFl outFrames
    rw [ht, h.1]
    have e : frs S now S.first (ems c p r) = [] ↔ r = 0 := by
      constructor
      · intro e; have := h.2.1; rw [e] at this; simpa using this.symm
      · rintro rfl; rfl
    by_cases hr0 : r = 0 ∧ S.tell = true
    · rw [if_pos hr0, if_pos ⟨e.2 hr0.1, hr0.2⟩]
    · rw [if_neg hr0, if_neg (fun h => hr0 ⟨e.1 h.1, h.2⟩)]

/-- A frame with the next message. -/
theorem in_next (S G : St) (F : Flds) (hs : stale S F = false) (hg : gotSt S F = G) (he : G.early = []) (hq : (F.seq : Int) = G.have_ + 1) (h0 : 0 ≤ G.have_) : inSt S F = ({ G with tell := true, have_ := G.have_ + 1 }, [F.b]) := by
  have hne : ¬ F.seq = 0 := by omega
  have e1 : earlySt G F.seq F.b = { G with tell := true, early := [(G.have_ + 1, F.b)] } := by
    unfold earlySt
    rw [if_pos (by omega), he, hq]
    rfl
  have g1 : eget [(G.have_ + 1, F.b)] (G.have_ + 1) = some F.b := by simp [eget]
  have d1 : edel [(G.have_ + 1, F.b)] (G.have_ + 1) = [] := by simp [edel]
  unfold inSt
  rw [hs, if_neg (by simp), if_neg hne, hg]
  unfold takeSt
  rw [e1]
  dsimp only
  rw [drain_some g1 _ (Nat.le_refl _), d1]
  have : drain ([] : List (Int × List UInt8)).length (G.have_ + 1) [] = (G.have_ + 1, [], []) := rfl
  rw [this, ← he]

theorem stale_no' {S : St} {F : Flds} (h : ¬ (F.epoch : Int) < S.peer) (h' : (F.known : Int) = 0 ∨ (F.known : Int) = S.epoch) : stale S F = false := by
  unfold stale; rw [decide_eq_false h]
  rcases h' with h' | h' <;> simp [h']

theorem got_same {S : St} {F : Flds} (h : ¬ S.peer < (F.epoch : Int)) (h' : (F.known : Int) ≠ S.epoch ∨ (F.ack : Int) < S.first) : gotSt S F = S := by
  unfold gotSt metSt
  rw [if_neg h]
  have hn : ackN S F.known F.ack = 0 := by
    unfold ackN
    rw [if_neg (by rcases h' with h' | h' <;> omega)]
  unfold ackSt
  rw [hn]; simp

/-- Many, in order, of a life that is known. -/
theorem fold_next (X : St) (c : UInt8) : ∀ (k p : Nat) (S : St), S.early = [] → 0 ≤ S.have_ → 0 ≤ S.epoch → (X.epoch.toNat : Int) = S.peer → (X.peer.toNat = 0 ∨ (X.peer.toNat : Int) = S.epoch) → ((X.peer.toNat : Int) ≠ S.epoch ∨ (X.have_.toNat : Int) < S.first) →
    foldIn S (emf X c (S.have_ + 1) p k) = ({ S with have_ := S.have_ + k, tell := S.tell || decide (0 < k) }, emb c p k)
  | 0, p, S, _, _, _, _, _, _ => by simp [foldIn, emf, emb]
  | k + 1, p, S, he, h0, h00, h1, h2, h3 => by
    have hs : stale S (mkF X (S.have_ + 1) (em c p)) = false := stale_no' (by show ¬ (X.epoch.toNat : Int) < S.peer; omega) (by
      rcases h2 with h2 | h2
      · left; show ((X.peer.toNat : Nat) : Int) = 0; omega
      · right; exact h2)
    have hg : gotSt S (mkF X (S.have_ + 1) (em c p)) = S := got_same (by show ¬ S.peer < (X.epoch.toNat : Int); omega) h3
    have hi := in_next S S _ hs hg he (by simp only [mkF]; omega) h0
    have ih := fold_next X c k (p + 1) { S with tell := true, have_ := S.have_ + 1 } he (by dsimp only; omega) h00 h1 h2 h3
    simp only [emf, foldIn, hi]
    rw [ih]
    simp only [emb, mkF, List.singleton_append, Prod.mk.injEq, and_true, Bool.true_or]
    simp only [St.mk.injEq, true_and]
    exact ⟨by omega, by simp⟩

/-- The new life, at the head of a tick. -/
def EA (p k : Nat) (t : Bool) : St := ⟨4, 1, 1 + p, ems 2 p k, 8, p, [], t⟩
/-- The other side: r messages are on their way. -/
def EB (p r k : Nat) (now : Int) : St := ⟨8, 1, 1 + p, emt 3 now p r ++ ems 3 (p + r) k, 4, p + r, [], false⟩

theorem drop_emt (c : UInt8) (t : Int) (p r k : Nat) : (emt c t p r ++ ems c (p + r) k).drop r = ems c (p + r) k := List.drop_left' (emt_len c t r p)

theorem ackN_eq {S : St} {k a : Int} {n : Nat} (hk : k = S.epoch) (ha : a - S.first + 1 = n) (hn : n ≤ S.l.length) : ackN S k a = n := by
  unfold ackN
  by_cases h : 0 < n
  · rw [if_pos ⟨hk, by omega, by omega⟩]; omega
  · rw [if_neg (by omega)]; omega

/-- b: the first frame of a tick. -/
theorem eb_got (p r k : Nat) (now : Int) (F : Flds) (h1 : F.epoch = 4) (h2 : F.known = 8) (h3 : F.ack = p + r) : stale (EB p r k now) F = false ∧ gotSt (EB p r k now) F = ⟨8, 1, 1 + (p + r : Nat), ems 3 (p + r) k, 4, p + r, [], false⟩ := by
  refine ⟨by simp [stale, EB, h1, h2], ?_⟩
  have hm : metSt (EB p r k now) F = EB p r k now := by simp [metSt, EB, h1]
  unfold gotSt
  rw [hm, h2, h3]
  have hn : ackN (EB p r k now) (8 : Nat) ((p + r : Nat) : Int) = r := ackN_eq rfl (by show ((p + r : Nat) : Int) - (1 + (p : Int)) + 1 = r; omega) (by simp [EB, emt_len, ems_len])
  unfold ackSt
  rw [hn]
  simp only [EB, drop_emt]
  congr 1
  omega

/-- a, behind its frames: the first frame of a tick. -/
theorem ea_got (p r k : Nat) (now : Int) (F : Flds) (h1 : F.epoch = 8) (h2 : F.known = 4) (h3 : F.ack = p + r) :
    stale (⟨4, 1, 1 + p, emt 2 now p r ++ ems 2 (p + r) k, 8, p, [], false⟩ : St) F = false ∧ gotSt (⟨4, 1, 1 + p, emt 2 now p r ++ ems 2 (p + r) k, 8, p, [], false⟩ : St) F = ⟨4, 1, 1 + (p + r : Nat), ems 2 (p + r) k, 8, p, [], false⟩ := by
  refine ⟨by simp [stale, h1, h2], ?_⟩
  have hm : metSt (⟨4, 1, 1 + p, emt 2 now p r ++ ems 2 (p + r) k, 8, p, [], false⟩ : St) F = ⟨4, 1, 1 + p, emt 2 now p r ++ ems 2 (p + r) k, 8, p, [], false⟩ := by simp [metSt, h1]
  unfold gotSt
  rw [hm, h2, h3]
  have hn : ackN (⟨4, 1, 1 + p, emt 2 now p r ++ ems 2 (p + r) k, 8, p, [], false⟩ : St) (4 : Nat) ((p + r : Nat) : Int) = r := ackN_eq rfl (by show ((p + r : Nat) : Int) - (1 + (p : Int)) + 1 = r; omega) (by simp [emt_len, ems_len])
  unfold ackSt
  rw [hn]
  simp only [drop_emt]
  congr 1
  omega

theorem fold_first (X S G : St) (c : UInt8) (p k : Nat) (q : Int) (hs : stale S (mkF X q (em c p)) = false) (hg : gotSt S (mkF X q (em c p)) = G) (he : G.early = []) (hq : q = G.have_ + 1) (h0 : 0 ≤ G.have_) (h00 : 0 ≤ G.epoch)
    (h1 : (X.epoch.toNat : Int) = G.peer) (h2 : X.peer.toNat = 0 ∨ (X.peer.toNat : Int) = G.epoch) (h3 : (X.peer.toNat : Int) ≠ G.epoch ∨ (X.have_.toNat : Int) < G.first) :
    foldIn S (emf X c q p (k + 1)) = ({ G with have_ := G.have_ + (k + 1 : Nat), tell := true }, emb c p (k + 1)) := by
  subst hq
  have hi := in_next S G _ hs hg he (by show (((G.have_ + 1).toNat : Nat) : Int) = G.have_ + 1; omega) h0
  have hn := fold_next X c k (p + 1) { G with tell := true, have_ := G.have_ + 1 } he (by dsimp only; omega) h00 h1 h2 h3
  dsimp only at hn
  simp only [emf, foldIn, hi]
  rw [hn]
  simp only [emb, mkF, List.singleton_append, Prod.mk.injEq, and_true, Bool.true_or, St.mk.injEq, true_and]
  omega

/-- The steps of a tick: what b became by a's frames. -/
def tB1 (A B : St) (now : Int) : St := (foldIn B (outFl A now)).1
def tA2 (A B : St) (now : Int) : St := (foldIn (outSt A now).1 (outFl (tB1 A B now) now)).1
def tB2 (A B : St) (now : Int) : St := (outSt (tB1 A B now) now).1
def tY (A B : St) (now : Int) : List (List UInt8) := (foldIn B (outFl A now)).2
def tX (A B : St) (now : Int) : List (List UInt8) := (foldIn (outSt A now).1 (outFl (tB1 A B now) now)).2

theorem split8 (k : Nat) : ∃ r k', k = r + k' ∧ (r = 8 ∨ r ≤ 8 ∧ k' = 0) ∧ (0 < k → 0 < r) ∧ r = min k 8 := by
  rcases Nat.lt_or_ge k 8 with h | h
  · exact ⟨k, 0, by omega, .inr ⟨by omega, rfl⟩, fun h => h, by omega⟩
  · exact ⟨8, k - 8, by omega, .inl rfl, fun _ => by omega, by omega⟩

theorem tick_any (p0 r0 k : Nat) (nb now : Int) (ta : Bool) (hta : k = 0 → ta = false → r0 = 0) :
    ∃ r k', k = r + k' ∧ r = min k 8 ∧ (tB1 (EA (p0 + r0) k ta) (EB p0 r0 k nb) now).peer = 4 ∧ tB2 (EA (p0 + r0) k ta) (EB p0 r0 k nb) now = EB (p0 + r0) r k' now ∧
      tA2 (EA (p0 + r0) k ta) (EB p0 r0 k nb) now = EA (p0 + r0 + r) k' (decide (0 < r)) ∧ tY (EA (p0 + r0) k ta) (EB p0 r0 k nb) now = emb 2 (p0 + r0) r ∧ tX (EA (p0 + r0) k ta) (EB p0 r0 k nb) now = emb 3 (p0 + r0) r := by
  obtain ⟨r, k', rfl, hr, hpos, hmin⟩ := split8 k
  obtain ⟨p, hp⟩ : ∃ p, p = p0 + r0 := ⟨_, rfl⟩
  rw [← hp]
  have o1 := out_ems (EA p (r + k') ta) now 2 p r k' rfl hr
  have e1 : (outSt (EA p (r + k') ta) now).1 = ⟨4, 1, 1 + p, emt 2 now p r ++ ems 2 (p + r) k', 8, p, [], false⟩ := o1.1
  -- what b becomes
  have e2 : foldIn (EB p0 r0 (r + k') nb) (outFl (EA p (r + k') ta) now) = (⟨8, 1, 1 + p, ems 3 p (r + k'), 4, p + r, [], decide (0 < r)⟩, emb 2 p r) := by
    rw [o1.2]
    cases r with
    | zero =>
      have hk' : k' = 0 := by
        rcases Nat.eq_zero_or_pos k' with h | h
        · exact h
        · exact absurd (hpos (by omega)) (by omega)
      subst hk'
      cases ta with
      | true =>
        rw [if_pos ⟨rfl, rfl⟩]
        have hg := eb_got p0 r0 0 nb (mkF (EA p 0 true) 0 []) (by simp [mkF, EA]) (by simp [mkF, EA]) (by simp [mkF, EA]; omega)
        simp only [foldIn, Nat.add_zero]
        have hi : inSt (EB p0 r0 0 nb) (mkF (EA p 0 true) 0 []) = (⟨8, 1, 1 + (p0 + r0 : Nat), ems 3 (p0 + r0) 0, 4, p0 + r0, [], false⟩, []) := by
          unfold inSt
          rw [hg.1, if_neg (by simp), if_pos (by simp [mkF]), hg.2]
        rw [hi, hp]
        simp [emb, ems]
      | false =>
        rw [if_neg (by simp [EA])]
        have h0 := hta rfl rfl
        subst h0
        simp only [emf, foldIn, EB, emb, emt, ems]
        simp [hp]
    | succ r =>
      rw [if_neg (by simp)]
      have hg := eb_got p0 r0 (r + 1 + k') nb (mkF (EA p (r + 1 + k') ta) (1 + p) (em 2 p)) (by simp [mkF, EA]) (by simp [mkF, EA]) (by simp [mkF, EA]; omega)
      have := fold_first (EA p (r + 1 + k') ta) (EB p0 r0 (r + 1 + k') nb) _ 2 p r (1 + p) hg.1 hg.2 rfl (by dsimp only; omega) (by dsimp only; omega) (by dsimp only; omega) (by simp [EA]) (.inr (by simp [EA])) (.inr (by simp [EA]; omega))
      refine this.trans ?_
      rw [hp]
      simp only [Prod.mk.injEq, and_true, St.mk.injEq, true_and]
      exact ⟨by omega, by simp⟩
  have b1 : tB1 (EA p (r + k') ta) (EB p0 r0 (r + k') nb) now = ⟨8, 1, 1 + p, ems 3 p (r + k'), 4, p + r, [], decide (0 < r)⟩ := by unfold tB1; rw [e2]
  have o2 := out_ems (⟨8, 1, 1 + p, ems 3 p (r + k'), 4, p + r, [], decide (0 < r)⟩ : St) now 3 p r k' rfl hr
  have f2 : outFl (⟨8, 1, 1 + p, ems 3 p (r + k'), 4, p + r, [], decide (0 < r)⟩ : St) now = emf ⟨8, 1, 1 + p, ems 3 p (r + k'), 4, p + r, [], decide (0 < r)⟩ 3 (1 + p) p r := by
    rw [o2.2, if_neg]
    rintro ⟨h1, h2⟩
    subst h1
    simp at h2
  have e3 : foldIn (⟨4, 1, 1 + p, emt 2 now p r ++ ems 2 (p + r) k', 8, p, [], false⟩ : St) (emf ⟨8, 1, 1 + p, ems 3 p (r + k'), 4, p + r, [], decide (0 < r)⟩ 3 (1 + p) p r) = (EA (p + r) k' (decide (0 < r)), emb 3 p r) := by
    cases r with
    | zero => simp [emf, foldIn, EA, emb, emt]
    | succ r =>
      have hg := ea_got p (r + 1) k' now (mkF ⟨8, 1, 1 + p, ems 3 p (r + 1 + k'), 4, p + (r + 1 : Nat), [], decide (0 < r + 1)⟩ (1 + p) (em 3 p)) (by simp [mkF]) (by simp [mkF]) (by simp only [mkF]; omega)
      have := fold_first ⟨8, 1, 1 + p, ems 3 p (r + 1 + k'), 4, p + (r + 1 : Nat), [], decide (0 < r + 1)⟩ ⟨4, 1, 1 + p, emt 2 now p (r + 1) ++ ems 2 (p + (r + 1)) k', 8, p, [], false⟩ _ 3 p r (1 + p) hg.1 hg.2 rfl (by dsimp only; omega) (by dsimp only; omega) (by dsimp only; omega) (by dsimp only; omega) (.inr (by dsimp only; omega)) (.inr (by dsimp only; omega))
      refine this.trans ?_
      simp only [EA, Prod.mk.injEq, and_true, St.mk.injEq, true_and]
      exact ⟨by omega, by simp⟩
  refine ⟨r, k', rfl, hmin, by rw [b1], ?_, ?_, by unfold tY; rw [e2], ?_⟩
  · unfold tB2; rw [b1, o2.1]; rfl
  · unfold tA2; rw [b1, e1, f2, e3]
  · unfold tX; rw [b1, e1, f2, e3]

theorem ems_un (c : UInt8) : ∀ k p, (ems c p k).map (fun m => { m with sent := false }) = ems c p k
  | 0, _ => rfl
  | k + 1, p => by simp [ems, ems_un c k (p + 1)]

theorem emt_un_len (c : UInt8) (t : Int) (p r k : Nat) : ((emt c t p r ++ ems c (p + r) k).map fun m => ({ m with sent := false } : Msg)).drop r = ems c (p + r) k := by
  rw [List.map_append, ems_un]
  exact List.drop_left' (by rw [List.length_map, emt_len])

/-- The two at the beginning of the ticks. -/
def E0 (m : Nat) : St := ⟨4, 1, 1, ems 2 0 m, 0, 0, [], false⟩
def F0b (m : Nat) (pe hv : Int) (tl : Bool) : St := ⟨8, 1, 1, ems 3 0 m, pe, hv, [], tl⟩

theorem tick_one (m : Nat) (hm : 0 < m) (pe hv : Int) (tl : Bool) (hpe : pe < 4) (now : Int) :
    ∃ r k', m = r + k' ∧ r = min m 8 ∧ (tB1 (E0 m) (F0b m pe hv tl) now).peer = 4 ∧ tB2 (E0 m) (F0b m pe hv tl) now = EB 0 r k' now ∧ tA2 (E0 m) (F0b m pe hv tl) now = EA r k' true ∧ tY (E0 m) (F0b m pe hv tl) now = emb 2 0 r ∧ tX (E0 m) (F0b m pe hv tl) now = emb 3 0 r := by
  obtain ⟨r, k', rfl, hr, hpos, hmin⟩ := split8 m
  have hr0 := hpos hm
  obtain ⟨r, rfl⟩ : ∃ r', r = r' + 1 := ⟨r - 1, by omega⟩
  have o1 := out_ems (E0 (r + 1 + k')) now 2 0 (r + 1) k' rfl hr
  have e1 : (outSt (E0 (r + 1 + k')) now).1 = ⟨4, 1, 1, emt 2 now 0 (r + 1) ++ ems 2 (0 + (r + 1)) k', 0, 0, [], false⟩ := o1.1
  have e2 : foldIn (F0b (r + 1 + k') pe hv tl) (outFl (E0 (r + 1 + k')) now) = (⟨8, 1, 1, ems 3 0 (r + 1 + k'), 4, (r + 1 : Nat), [], true⟩, emb 2 0 (r + 1)) := by
    rw [o1.2, if_neg (by simp)]
    have hs : stale (F0b (r + 1 + k') pe hv tl) (mkF (E0 (r + 1 + k')) 1 (em 2 0)) = false := stale_no' (by show ¬ ((4 : Nat) : Int) < pe; omega) (.inl rfl)
    have hg : gotSt (F0b (r + 1 + k') pe hv tl) (mkF (E0 (r + 1 + k')) 1 (em 2 0)) = ⟨8, 1, 1, ems 3 0 (r + 1 + k'), 4, 0, [], true⟩ := by
      have hmm : metSt (F0b (r + 1 + k') pe hv tl) (mkF (E0 (r + 1 + k')) 1 (em 2 0)) = ⟨8, 1, 1, ems 3 0 (r + 1 + k'), 4, 0, [], true⟩ := by
        unfold metSt
        rw [if_pos (by show pe < ((4 : Nat) : Int); omega)]
        unfold meetSt
        simp only [F0b, ems_un]
        rfl
      unfold gotSt
      rw [hmm]
      have hn : ackN (⟨8, 1, 1, ems 3 0 (r + 1 + k'), 4, 0, [], true⟩ : St) ((mkF (E0 (r + 1 + k')) 1 (em 2 0)).known : Int) ((mkF (E0 (r + 1 + k')) 1 (em 2 0)).ack : Int) = 0 := by
        unfold ackN
        rw [if_neg]
        rintro ⟨h, _⟩
        exact absurd (show ((0 : Nat) : Int) = 8 from h) (by decide)
      unfold ackSt
      rw [hn]
      simp
    have := fold_first (E0 (r + 1 + k')) (F0b (r + 1 + k') pe hv tl) _ 2 0 r 1 hs hg rfl rfl (by show (0 : Int) ≤ 0; decide) (by show (0 : Int) ≤ 8; decide) rfl (.inl rfl) (.inl (by show ((0 : Nat) : Int) ≠ 8; decide))
    refine this.trans ?_
    simp only [Prod.mk.injEq, and_true, St.mk.injEq, true_and]
    omega
  have b1 : tB1 (E0 (r + 1 + k')) (F0b (r + 1 + k') pe hv tl) now = ⟨8, 1, 1, ems 3 0 (r + 1 + k'), 4, (r + 1 : Nat), [], true⟩ := by unfold tB1; rw [e2]
  have o2 := out_ems (⟨8, 1, 1, ems 3 0 (r + 1 + k'), 4, (r + 1 : Nat), [], true⟩ : St) now 3 0 (r + 1) k' rfl hr
  have f2 : outFl (⟨8, 1, 1, ems 3 0 (r + 1 + k'), 4, (r + 1 : Nat), [], true⟩ : St) now = emf ⟨8, 1, 1, ems 3 0 (r + 1 + k'), 4, (r + 1 : Nat), [], true⟩ 3 1 0 (r + 1) := by
    rw [o2.2, if_neg (by simp)]
  have e3 : foldIn (⟨4, 1, 1, emt 2 now 0 (r + 1) ++ ems 2 (0 + (r + 1)) k', 0, 0, [], false⟩ : St) (emf ⟨8, 1, 1, ems 3 0 (r + 1 + k'), 4, (r + 1 : Nat), [], true⟩ 3 1 0 (r + 1)) = (EA (r + 1) k' true, emb 3 0 (r + 1)) := by
    have hs : stale (⟨4, 1, 1, emt 2 now 0 (r + 1) ++ ems 2 (0 + (r + 1)) k', 0, 0, [], false⟩ : St) (mkF ⟨8, 1, 1, ems 3 0 (r + 1 + k'), 4, (r + 1 : Nat), [], true⟩ 1 (em 3 0)) = false := stale_no' (by show ¬ ((8 : Nat) : Int) < 0; decide) (.inr rfl)
    have hg : gotSt (⟨4, 1, 1, emt 2 now 0 (r + 1) ++ ems 2 (0 + (r + 1)) k', 0, 0, [], false⟩ : St) (mkF ⟨8, 1, 1, ems 3 0 (r + 1 + k'), 4, (r + 1 : Nat), [], true⟩ 1 (em 3 0)) = ⟨4, 1, 1 + (r + 1 : Nat), ems 2 (r + 1) k', 8, 0, [], true⟩ := by
      have hmm : metSt (⟨4, 1, 1, emt 2 now 0 (r + 1) ++ ems 2 (0 + (r + 1)) k', 0, 0, [], false⟩ : St) (mkF ⟨8, 1, 1, ems 3 0 (r + 1 + k'), 4, (r + 1 : Nat), [], true⟩ 1 (em 3 0)) = ⟨4, 1, 1, (emt 2 now 0 (r + 1) ++ ems 2 (0 + (r + 1)) k').map fun m => { m with sent := false }, 8, 0, [], true⟩ := by
        unfold metSt
        rw [if_pos (by show (0 : Int) < ((8 : Nat) : Int); decide)]
        rfl
      unfold gotSt
      rw [hmm]
      have hn : ackN (⟨4, 1, 1, (emt 2 now 0 (r + 1) ++ ems 2 (0 + (r + 1)) k').map fun m => { m with sent := false }, 8, 0, [], true⟩ : St) ((mkF ⟨8, 1, 1, ems 3 0 (r + 1 + k'), 4, (r + 1 : Nat), [], true⟩ 1 (em 3 0)).known : Int) ((mkF ⟨8, 1, 1, ems 3 0 (r + 1 + k'), 4, (r + 1 : Nat), [], true⟩ 1 (em 3 0)).ack : Int) = r + 1 :=
        ackN_eq rfl (by show (((((r + 1 : Nat) : Int).toNat) : Nat) : Int) - 1 + 1 = ((r + 1 : Nat) : Int); omega) (by simp [emt_len, ems_len])
      unfold ackSt
      rw [hn]
      simp only [emt_un_len]
      simp
    have := fold_first ⟨8, 1, 1, ems 3 0 (r + 1 + k'), 4, (r + 1 : Nat), [], true⟩ ⟨4, 1, 1, emt 2 now 0 (r + 1) ++ ems 2 (0 + (r + 1)) k', 0, 0, [], false⟩ _ 3 0 r 1 hs hg rfl rfl (by show (0 : Int) ≤ 0; decide) (by show (0 : Int) ≤ 4; decide) rfl (.inr rfl) (.inr (by show ((((r + 1 : Nat) : Int).toNat : Nat) : Int) < 1 + ((r + 1 : Nat) : Int); omega))
    refine this.trans ?_
    simp only [EA, Prod.mk.injEq, and_true, St.mk.injEq, true_and]
    omega
  refine ⟨r + 1, k', rfl, hmin, by rw [b1], ?_, ?_, by unfold tY; rw [e2], ?_⟩
  · unfold tB2; rw [b1, o2.1]; simp [EB]
  · unfold tA2; rw [b1, e1, f2, e3]
  · unfold tX; rw [b1, e1, f2, e3]

/-- At the head of tick 'now' (from 1 on), if m messages go each way. -/
def EX (m now : Nat) (A B : St) (xs ys : List (List UInt8)) : Prop :=
  (now = 1 ∧ A = E0 m ∧ (∃ pe hv tl, pe < 4 ∧ B = F0b m pe hv tl) ∧ xs = [] ∧ ys = []) ∨
  (2 ≤ now ∧ ∃ (p0 r0 k : Nat) (ta : Bool) (nb : Int), (k = 0 → ta = false → r0 = 0) ∧ p0 + r0 + k = m ∧ min m (8 * (now - 1)) ≤ p0 + r0 ∧ A = EA (p0 + r0) k ta ∧ B = EB p0 r0 k nb ∧ xs = emb 3 0 (p0 + r0) ∧ ys = emb 2 0 (p0 + r0))

theorem EX.step {m now : Nat} {A B : St} {xs ys : List (List UInt8)} (h : EX m now A B xs ys) (hm : 0 < m) :
    (tB1 A B now).peer = 4 ∧ EX m (now + 1) (tA2 A B now) (tB2 A B now) (xs ++ tX A B now) (ys ++ tY A B now) := by
  rcases h with ⟨rfl, rfl, ⟨pe, hv, tl, hpe, rfl⟩, rfl, rfl⟩ | ⟨h2, p0, r0, k, ta, nb, hta, hk, hp, rfl, rfl, rfl, rfl⟩
  · obtain ⟨r, k', h1, h2, h3, h4, h5, h6, h7⟩ := tick_one m hm pe hv tl hpe ((1 : Nat) : Int)
    refine ⟨h3, .inr ⟨by omega, 0, r, k', true, ((1 : Nat) : Int), by simp, by omega, by omega, ?_, h4, ?_, ?_⟩⟩
    · rw [h5, Nat.zero_add]
    · rw [h7, Nat.zero_add]; rfl
    · rw [h6, Nat.zero_add]; rfl
  · obtain ⟨r, k', h1, h3, h4, h5, h6, h7, h8⟩ := tick_any p0 r0 k nb (now : Int) ta hta
    refine ⟨h4, .inr ⟨by omega, p0 + r0, r, k', decide (0 < r), (now : Int), ?_, by omega, by omega, h6, h5, ?_, ?_⟩⟩
    · intro _ h
      have := of_decide_eq_false h
      omega
    · rw [h8, emb_app 3 (p0 + r0) r 0, Nat.zero_add]
    · rw [h7, emb_app 2 (p0 + r0) r 0, Nat.zero_add]

theorem EX.fin {m : Nat} {A B : St} {xs ys : List (List UInt8)} (h : EX m 30 A B xs ys) (hm : m ≤ 20) : xs = emb 3 0 m ∧ ys = emb 2 0 m ∧ A.peer = 8 ∧ B.peer = 4 := by
  rcases h with ⟨h, _⟩ | ⟨_, p0, r0, k, ta, nb, hta, hk, hp, rfl, rfl, rfl, rfl⟩
  · omega
  · have : p0 + r0 = m := by omega
    rw [this]
    exact ⟨rfl, rfl, rfl, rfl⟩

end Go.Proofs.Ytfalaopljodmnaa
