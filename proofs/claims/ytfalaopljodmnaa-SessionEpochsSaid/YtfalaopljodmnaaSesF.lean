/- session: what Send, Out and In make of a session. No walk. -/
import Derived.Test.YtfalaopljodmnaaBL
namespace Go.Proofs.Ytfalaopljodmnaa

/-- A frame. -/
def frameB (S : St) (seq : Int) (b : List UInt8) : List UInt8 := sealed (frameI S.epoch.toNat S.peer.toNat seq.toNat S.have_.toNat b)

/-- Is a message to be sent now? -/
def due (S : St) (now : Int) (m : Msg) : Bool := !(m.sent && decide (now - m.at_ < S.wait))

/-- It is sent. -/
def updM (S : St) (now : Int) (m : Msg) : Msg := if due S now m then { m with sent := true, at_ := now } else m

/-- The frames of messages. -/
def frs (S : St) (now : Int) : Int → List Msg → List (List UInt8)
  | _, [] => []
  | q, m :: r => if due S now m then frameB S q m.b :: frs S now (q + 1) r else frs S now (q + 1) r

theorem frs_app (S : St) (now : Int) : ∀ (a b : List Msg) (q : Int), frs S now q (a ++ b) = frs S now q a ++ frs S now (q + a.length) b
  | [], b, q => by simp [frs]
  | m :: r, b, q => by
    have h := frs_app S now r b (q + 1)
    have e : q + 1 + (r.length : Int) = q + ((r.length + 1 : Nat) : Int) := by omega
    simp only [frs, List.cons_append, List.length_cons, h, e]
    split <;> simp

def outFrames (S : St) (now : Int) : List (List UInt8) := frs S now S.first (S.l.take 8)
def outL (S : St) (now : Int) : List Msg := (S.l.take 8).map (updM S now) ++ S.l.drop 8

/-- Out: what is left, and the frames. -/
def outSt (S : St) (now : Int) : St × List (List UInt8) :=
  ({ S with l := outL S now, tell := false }, if outFrames S now = [] ∧ S.tell = true then [frameB S 0 []] else outFrames S now)

/-- Another life of the other end. -/
def meetSt (S : St) (e : Int) : St := { S with peer := e, have_ := 0, early := [], first := 1, tell := true, l := S.l.map fun m => { m with sent := false } }

/-- How many are known to have come. -/
def ackN (S : St) (known ack : Int) : Nat := if known = S.epoch ∧ 0 < ack - S.first + 1 ∧ ack - S.first + 1 ≤ S.l.length then (ack - S.first + 1).toNat else 0

def ackSt (S : St) (known ack : Int) : St := { S with l := S.l.drop (ackN S known ack), first := S.first + (ackN S known ack : Int) }

def earlySt (S : St) (seq : Int) (b : List UInt8) : St :=
  { S with tell := true, early := if S.have_ < seq ∧ seq - S.have_ ≤ 200 then eput S.early seq b else S.early }

/-- What is in turn. -/
def drain : Nat → Int → List (Int × List UInt8) → Int × List (Int × List UInt8) × List (List UInt8)
  | 0, h, E => (h, E, [])
  | n + 1, h, E => match eget E (h + 1) with
    | none => (h, E, [])
    | some b => ((drain n (h + 1) (edel E (h + 1))).1, (drain n (h + 1) (edel E (h + 1))).2.1, b :: (drain n (h + 1) (edel E (h + 1))).2.2)

def takeSt (S : St) : St × List (List UInt8) :=
  ({ S with have_ := (drain S.early.length S.have_ S.early).1, early := (drain S.early.length S.have_ S.early).2.1 }, (drain S.early.length S.have_ S.early).2.2)

/-- Is a frame passed over? -/
def stale (S : St) (F : Flds) : Bool := decide ((F.epoch : Int) < S.peer) || (decide ((F.known : Int) ≠ 0) && decide ((F.known : Int) ≠ S.epoch))

def metSt (S : St) (F : Flds) : St := if S.peer < (F.epoch : Int) then meetSt S F.epoch else S

def gotSt (S : St) (F : Flds) : St := ackSt (metSt S F) F.known F.ack

/-- In. -/
def inSt (S : St) (F : Flds) : St × List (List UInt8) :=
  if stale S F then (S, []) else if F.seq = 0 then (gotSt S F, []) else takeSt (earlySt (gotSt S F) F.seq F.b)

theorem edel_len {E : List (Int × List UInt8)} {k : Int} {b : List UInt8} (h : eget E k = some b) : (edel E k).length < E.length := by
  unfold eget at h
  unfold edel
  cases hf : E.find? (fun p => p.1 == k) with
  | none => rw [hf] at h; simp at h
  | some p =>
    have hm := List.mem_of_find?_eq_some hf
    have hp := List.find?_some hf
    exact List.length_filter_lt_length_iff_exists.2 ⟨p, hm, by simpa using hp⟩

/-- A session within its bounds. -/
structure SOk (S : St) : Prop where
  epoch : 1 ≤ S.epoch ∧ S.epoch ≤ 2147483647
  wait : 1 ≤ S.wait ∧ S.wait ≤ 1000
  first : 1 ≤ S.first ∧ S.first + S.l.length ≤ 2147483647
  len : S.l.length ≤ 200
  peer : 0 ≤ S.peer ∧ S.peer ≤ 2147483647
  have_ : 0 ≤ S.have_ ∧ S.have_ ≤ 2147483647
  msg : ∀ m ∈ S.l, m.b.length ≤ 40000 ∧ -1000000000000 ≤ m.at_ ∧ m.at_ ≤ 1000000000000
  early : ∀ p ∈ S.early, p.1 ≤ 2147483647 ∧ p.2.length ≤ 40000

theorem fresh_ok {epoch wait : Int} (h1 : 1 ≤ epoch) (h2 : epoch ≤ 2147483647) (h3 : 1 ≤ wait) (h4 : wait ≤ 1000) : SOk (fresh epoch wait) :=
  ⟨⟨h1, h2⟩, ⟨h3, h4⟩, by simp [fresh], by simp [fresh], by simp [fresh], by simp [fresh], by simp [fresh], by simp [fresh]⟩

theorem rnum_b (l : List UInt8) (e : Int) : (rnum l e).1 ≤ 2147483647 := by
  unfold rnum
  by_cases h1 : e ≠ 0
  · rw [if_pos h1]; simp
  · rw [if_neg h1]
    by_cases h2 : l.length < 4
    · rw [if_pos h2]; simp
    · rw [if_neg h2]
      by_cases h3 : 2147483647 < leV (l.take 4)
      · rw [if_pos h3]; simp
      · rw [if_neg h3]; simp; omega

theorem rbytes_b (l : List UInt8) (e most : Int) (hm : 0 ≤ most) : ((rbytes l e most).1.length : Int) ≤ most := by
  unfold rbytes
  by_cases h1 : (rnum l e).2.2 ≠ 0
  · rw [if_pos h1]; simpa using hm
  · rw [if_neg h1]
    by_cases h2 : (rnum l e).2.1.length < (rnum l e).1
    · rw [if_pos h2]; simpa using hm
    · rw [if_neg h2]
      by_cases h3 : most < (rnum l e).1
      · rw [if_pos h3]; simpa using hm
      · rw [if_neg h3]
        simp only [List.length_take]; omega

theorem rdF_b {l : List UInt8} {F : Flds} (h : rdF l = some F) : 1 ≤ F.epoch ∧ F.epoch ≤ 2147483647 ∧ F.known ≤ 2147483647 ∧ F.seq ≤ 2147483647 ∧ F.ack ≤ 2147483647 ∧ F.b.length ≤ 40000 := by
  unfold rdF at h
  cases ho : opened l with
  | none => rw [ho] at h; cases h
  | some x =>
    rw [ho] at h
    simp only [Option.bind_some, fldOf] at h
    split at h
    · rename_i hc
      cases h
      exact ⟨hc.2.2.1, rnum_b _ _, rnum_b _ _, rnum_b _ _, rnum_b _ _, by have := rbytes_b (rd4 x).2.1 (rd4 x).2.2 40000 (by omega); unfold rd5; dsimp only; omega⟩
    · cases h

theorem eget_mem {E : List (Int × List UInt8)} {k : Int} {b : List UInt8} (h : eget E k = some b) : (k, b) ∈ E := by
  unfold eget at h
  cases hf : E.find? (fun p => p.1 == k) with
  | none => rw [hf] at h; simp at h
  | some p =>
    rw [hf] at h
    have hm := List.mem_of_find?_eq_some hf
    have hp := List.find?_some hf
    simp at h hp
    obtain ⟨a, c⟩ := p
    simp at h hp
    subst h hp
    exact hm

theorem edel_sub {E : List (Int × List UInt8)} {k : Int} : ∀ p ∈ edel E k, p ∈ E := fun _ hp => (List.mem_filter.1 hp).1

/-- A step of what is in turn. -/
theorem drain_some {h : Int} {E : List (Int × List UInt8)} {b : List UInt8} (he : eget E (h + 1) = some b) (n : Nat) (hn : E.length ≤ n) :
    drain n h E = ((drain (edel E (h + 1)).length (h + 1) (edel E (h + 1))).1, (drain (edel E (h + 1)).length (h + 1) (edel E (h + 1))).2.1, b :: (drain (edel E (h + 1)).length (h + 1) (edel E (h + 1))).2.2) := by
  have hl := edel_len he
  have more : ∀ (m n : Nat) (h : Int) (E : List (Int × List UInt8)), E.length ≤ m → m ≤ n → drain n h E = drain m h E := by
    intro m
    induction m with
    | zero =>
      intro n h E h1 h2
      obtain rfl : E = [] := List.eq_nil_of_length_eq_zero (by omega)
      cases n <;> simp [drain, eget]
    | succ m ih =>
      intro n h E h1 h2
      obtain ⟨n, rfl⟩ : ∃ n', n = n' + 1 := ⟨n - 1, by omega⟩
      unfold drain
      cases hg : eget E (h + 1) with
      | none => rfl
      | some b =>
        have := edel_len hg
        simp only
        rw [ih n (h + 1) (edel E (h + 1)) (by omega) (by omega)]
  obtain ⟨n, rfl⟩ : ∃ n', n = n' + 1 := ⟨n - 1, by omega⟩
  have := more (edel E (h + 1)).length n (h + 1) (edel E (h + 1)) (Nat.le_refl _) (by omega)
  rw [drain, he]
  simp only
  rw [this]

theorem drain_none {h : Int} {E : List (Int × List UInt8)} (he : eget E (h + 1) = none) (n : Nat) : drain n h E = (h, E, []) := by
  cases n with
  | zero => rfl
  | succ n => rw [drain, he]

end Go.Proofs.Ytfalaopljodmnaa
