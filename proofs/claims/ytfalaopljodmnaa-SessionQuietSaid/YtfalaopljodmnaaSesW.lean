/- linnetlaw20.SessionQuiet: what the two sessions become. No walk. -/
import Derived.Test.YtfalaopljodmnaaSesM
namespace Go.Proofs.Ytfalaopljodmnaa

/-- n messages, all alike. -/
def qmsgs (n : Nat) (s : Bool) (a : Int) : List Msg := (List.range n).map fun i => ⟨[UInt8.ofNat i], s, a⟩

/-- The sender. -/
def qA (n : Nat) (wait : Int) (s : Bool) (a : Int) : St := { fresh 2 wait with l := qmsgs n s a }

theorem qmsgs_len (n : Nat) (s : Bool) (a : Int) : (qmsgs n s a).length = n := by simp [qmsgs]

theorem qA_ok {n : Nat} {wait : Int} {s : Bool} {a : Int} (hn : n ≤ 200) (h1 : 1 ≤ wait) (h2 : wait ≤ 1000) (ha : -1000000000000 ≤ a ∧ a ≤ 1000000000000) : SOk (qA n wait s a) := by
  have hl := qmsgs_len n s a
  refine ⟨by simp [qA, fresh], ⟨h1, h2⟩, ?_, ?_, by simp [qA, fresh], by simp [qA, fresh], ?_, by simp [qA, fresh]⟩
  · simp only [qA, fresh, hl]; omega
  · simp only [qA, hl]; omega
  · intro m hm
    simp only [qA, qmsgs, List.mem_map] at hm
    obtain ⟨i, _, rfl⟩ := hm
    exact ⟨by simp, ha⟩

theorem qsend (n : Nat) (wait : Int) : ({ qA n wait false 0 with l := (qA n wait false 0).l ++ [⟨[UInt8.ofNat n], false, 0⟩] } : St) = qA (n + 1) wait false 0 := by
  simp [qA, qmsgs, List.range_succ, fresh]

/-- Its frames. -/
def qfr (n : Nat) (wait : Int) : List (List UInt8) := (List.range n).map fun i : Nat => frameB (fresh 2 wait) (1 + (i : Int)) [UInt8.ofNat i]

theorem qfr_len (n : Nat) (wait : Int) : (qfr n wait).length = n := by simp [qfr]

theorem qfrs_due (wait : Int) (S : St) (now : Int) (hS : ∀ q b, frameB S q b = frameB (fresh 2 wait) q b) (s : Bool) (a : Int) (hd : ∀ b, due S now ⟨b, s, a⟩ = true) (n : Nat) : frs S now 1 (qmsgs n s a) = qfr n wait := by
  induction n with
  | zero => rfl
  | succ n ih =>
    have h1 : qmsgs (n + 1) s a = qmsgs n s a ++ [⟨[UInt8.ofNat n], s, a⟩] := by simp [qmsgs, List.range_succ]
    have h2 : qfr (n + 1) wait = qfr n wait ++ [frameB (fresh 2 wait) (1 + n) [UInt8.ofNat n]] := by simp [qfr, List.range_succ]
    rw [h1, h2, frs_app, ih, qmsgs_len]
    simp [frs, hd, hS]

theorem qfrs_not (S : St) (now : Int) (s : Bool) (a : Int) (hd : ∀ b, due S now ⟨b, s, a⟩ = false) : ∀ (l : List Nat) (q : Int), frs S now q (l.map fun i => ⟨[UInt8.ofNat i], s, a⟩) = []
  | [], _ => rfl
  | i :: r, q => by simp [frs, hd, qfrs_not S now s a hd r]

theorem qout_due (n : Nat) (wait : Int) (s : Bool) (a now : Int) (hn : 1 ≤ n) (hn8 : n ≤ 8) (hd : s = false ∨ wait ≤ now - a) : outSt (qA n wait s a) now = (qA n wait true now, qfr n wait) := by
  have hdue : ∀ b, due (qA n wait s a) now ⟨b, s, a⟩ = true := by
    intro b
    unfold due
    rcases hd with rfl | hd
    · simp
    · have : decide (now - a < (qA n wait s a).wait) = false := decide_eq_false (by simp [qA, fresh]; omega)
      rw [this]; simp
  have ht : (qA n wait s a).l.take 8 = qmsgs n s a := List.take_of_length_le (by simp [qA, qmsgs_len]; omega)
  have hdr : (qA n wait s a).l.drop 8 = [] := List.drop_eq_nil_of_le (by simp [qA, qmsgs_len]; omega)
  have hf : outFrames (qA n wait s a) now = qfr n wait := by
    unfold outFrames; rw [ht]; exact qfrs_due wait (qA n wait s a) now (fun q b => rfl) s a hdue n
  have hl : outL (qA n wait s a) now = qmsgs n true now := by
    unfold outL; rw [ht, hdr, List.append_nil]
    simp only [qmsgs, List.map_map]
    refine List.map_congr_left fun i _ => ?_
    simp [updM, hdue]
  have hne : qfr n wait ≠ [] := fun e => by have := qfr_len n wait; rw [e] at this; simp at this; omega
  unfold outSt
  rw [hf, hl, if_neg (fun h => hne h.1)]
  rfl

theorem qout_not (n : Nat) (wait : Int) (a now : Int) (hn8 : n ≤ 8) (hd : now - a < wait) : outSt (qA n wait true a) now = (qA n wait true a, []) := by
  have hdue : ∀ b, due (qA n wait true a) now ⟨b, true, a⟩ = false := by
    intro b
    unfold due
    have : decide (now - a < (qA n wait true a).wait) = true := decide_eq_true (by simp [qA, fresh]; omega)
    rw [this]; simp
  have ht : (qA n wait true a).l.take 8 = qmsgs n true a := List.take_of_length_le (by simp [qA, qmsgs_len]; omega)
  have hdr : (qA n wait true a).l.drop 8 = [] := List.drop_eq_nil_of_le (by simp [qA, qmsgs_len]; omega)
  have hf : outFrames (qA n wait true a) now = [] := by
    unfold outFrames; rw [ht]; exact qfrs_not _ now true a hdue _ _
  have hl : outL (qA n wait true a) now = qmsgs n true a := by
    unfold outL; rw [ht, hdr, List.append_nil]
    simp only [qmsgs, List.map_map]
    refine List.map_congr_left fun i _ => ?_
    simp [updM, hdue]
  unfold outSt
  rw [hf, hl]
  rfl

/-- The other one, behind i frames. -/
def qB (wait : Int) (i : Nat) : St := if i = 0 then fresh 2 wait else ⟨2, wait, 1, [], 2, i, [], true⟩

theorem qB_ok {wait : Int} {i : Nat} (h1 : 1 ≤ wait) (h2 : wait ≤ 1000) (hi : i ≤ 1000) : SOk (qB wait i) := by
  unfold qB
  split
  · exact fresh_ok (by omega) (by omega) h1 h2
  · exact ⟨by simp, ⟨h1, h2⟩, by simp, by simp, by simp, by simp; omega, by simp, by simp⟩

def qF (i : Nat) : Flds := ⟨2, 0, i + 1, 0, [UInt8.ofNat i]⟩

theorem q_rd (wait : Int) (h1 : 1 ≤ wait) (h2 : wait ≤ 1000) (i : Nat) (hi : i ≤ 1000) : rdF (frameB (fresh 2 wait) (1 + i) [UInt8.ofNat i]) = some (qF i) := by
  rw [rdF_frame (fresh_ok (by omega) (by omega) h1 h2) (1 + (i : Int)) _ (by omega) (by omega) (by simp) (.inl (by omega))]
  simp only [mkF, qF, fresh]
  congr 2
  omega

/-- One in turn, nothing early. -/
theorem take_one (S : St) (b : List UInt8) (he : S.early = []) : takeSt (earlySt S (S.have_ + 1) b) = ({ S with tell := true, have_ := S.have_ + 1 }, [b]) := by
  have e1 : earlySt S (S.have_ + 1) b = { S with tell := true, early := [(S.have_ + 1, b)] } := by
    unfold earlySt
    rw [if_pos (by omega), he]
    rfl
  have g1 : eget [(S.have_ + 1, b)] (S.have_ + 1) = some b := by simp [eget]
  have d1 : edel [(S.have_ + 1, b)] (S.have_ + 1) = [] := by simp [edel]
  unfold takeSt
  rw [e1]
  dsimp only
  rw [drain_some g1 _ (Nat.le_refl _), d1]
  have : drain ([] : List (Int × List UInt8)).length (S.have_ + 1) [] = (S.have_ + 1, [], []) := rfl
  rw [this, ← he]

theorem qin (wait : Int) (i : Nat) : inSt (qB wait i) (qF i) = (qB wait (i + 1), [[UInt8.ofNat i]]) := by
  cases i with
  | zero =>
    have hs : stale (qB wait 0) (qF 0) = false := by simp [stale, qB, qF, fresh]
    have hg : gotSt (qB wait 0) (qF 0) = { meetSt (fresh 2 wait) 2 with tell := true } := by
      have hm : metSt (qB wait 0) (qF 0) = meetSt (fresh 2 wait) 2 := by simp [metSt, qB, qF, fresh]
      unfold gotSt
      rw [hm]
      simp [ackSt, ackN, meetSt, fresh, qF]
    unfold inSt
    rw [hs, if_neg (by simp), if_neg (by simp [qF]), hg]
    have := take_one { meetSt (fresh 2 wait) 2 with tell := true } [UInt8.ofNat 0] rfl
    simp only [meetSt, fresh] at this ⊢
    have e : ((qF 0).seq : Int) = 0 + 1 := by simp [qF]
    rw [e]
    refine this.trans ?_
    simp [qB]
  | succ i =>
    have hb : qB wait (i + 1) = ⟨2, wait, 1, [], 2, (i + 1 : Nat), [], true⟩ := by simp [qB]
    have hb2 : qB wait (i + 1 + 1) = ⟨2, wait, 1, [], 2, (i + 1 + 1 : Nat), [], true⟩ := by simp [qB]
    have hs : stale (qB wait (i + 1)) (qF (i + 1)) = false := by rw [hb]; simp [stale, qF]
    have hg : gotSt (qB wait (i + 1)) (qF (i + 1)) = qB wait (i + 1) := by
      have hm : metSt (qB wait (i + 1)) (qF (i + 1)) = qB wait (i + 1) := by rw [hb]; simp [metSt, qF]
      unfold gotSt
      rw [hm, hb]
      simp [ackSt, ackN, qF]
    unfold inSt
    rw [hs, if_neg (by simp), if_neg (by simp [qF]), hg, hb, hb2]
    have := take_one ⟨2, wait, 1, [], 2, (i + 1 : Nat), [], true⟩ [UInt8.ofNat (i + 1)] rfl
    have e : ((qF (i + 1)).seq : Int) = ((i + 1 : Nat) : Int) + 1 := by simp [qF]
    rw [e]
    refine this.trans ?_
    simp

/-- It tells what came. -/
theorem qback (wait : Int) (n : Nat) (hn : 1 ≤ n) (now : Int) : outSt (qB wait n) now = ({ qB wait n with tell := false }, [frameB (qB wait n) 0 []]) := by
  have hb : qB wait n = ⟨2, wait, 1, [], 2, n, [], true⟩ := by unfold qB; rw [if_neg (by omega)]
  rw [hb]
  rfl

def qG (n : Nat) : Flds := ⟨2, 2, 0, n, []⟩

theorem q_rd2 (wait : Int) (h1 : 1 ≤ wait) (h2 : wait ≤ 1000) (n : Nat) (hn : 1 ≤ n) (hn2 : n ≤ 1000) : rdF (frameB (qB wait n) 0 []) = some (qG n) := by
  rw [rdF_frame (qB_ok h1 h2 hn2) 0 [] (by omega) (by omega) (by simp) (.inr rfl)]
  have hb : qB wait n = ⟨2, wait, 1, [], 2, n, [], true⟩ := by unfold qB; rw [if_neg (by omega)]
  rw [hb]
  simp [mkF, qG]

/-- The sender, when all is known to have come. -/
def qE (n : Nat) (wait : Int) (t : Bool) : St := ⟨2, wait, 1 + n, [], 2, 0, [], t⟩

theorem qacked (n : Nat) (wait a : Int) (hn : 1 ≤ n) : inSt (qA n wait true a) (qG n) = (qE n wait true, []) := by
  have hs : stale (qA n wait true a) (qG n) = false := by simp [stale, qA, qG, fresh]
  have hm : metSt (qA n wait true a) (qG n) = meetSt (qA n wait true a) 2 := by simp [metSt, qA, qG, fresh]
  have hk : ackN (meetSt (qA n wait true a) 2) (qG n).known (qG n).ack = n := by
    unfold ackN
    rw [if_pos ⟨by simp [meetSt, qA, fresh, qG], by simp [meetSt, qG]; omega, by simp [meetSt, qG, qA, qmsgs_len]⟩]
    simp [meetSt, qG]
  unfold inSt
  rw [hs, if_neg (by simp), if_pos (show (qG n).seq = 0 from rfl)]
  unfold gotSt ackSt
  rw [hm, hk]
  have : (meetSt (qA n wait true a) 2).l.drop n = [] := List.drop_eq_nil_of_le (by simp [meetSt, qA, qmsgs_len])
  rw [this]
  rfl

theorem qE_ok {n : Nat} {wait : Int} {t : Bool} (hn : n ≤ 200) (h1 : 1 ≤ wait) (h2 : wait ≤ 1000) : SOk (qE n wait t) :=
  ⟨by simp [qE], ⟨h1, h2⟩, by simp [qE]; omega, by simp [qE], by simp [qE], by simp [qE], by simp [qE], by simp [qE]⟩

theorem qquiet (n : Nat) (wait now : Int) (t : Bool) : outSt (qE n wait t) now = (qE n wait false, if t then [frameB (qE n wait true) 0 []] else []) := by
  cases t <;> rfl

def qH : Flds := ⟨2, 2, 0, 0, []⟩

theorem q_rd3 (wait : Int) (h1 : 1 ≤ wait) (h2 : wait ≤ 1000) (n : Nat) (hn2 : n ≤ 200) : rdF (frameB (qE n wait true) 0 []) = some qH := by
  rw [rdF_frame (qE_ok hn2 h1 h2) 0 [] (by omega) (by omega) (by simp) (.inr rfl)]
  simp [mkF, qH, qE]

end Go.Proofs.Ytfalaopljodmnaa
