/- vote: who wins, in plain Lean: the program's way and the reference's. -/
import Derived.Test.YtfalaopljodmnaaVote3
namespace Go.Proofs.Ytfalaopljodmnaa

/-- Three copies. -/
def tri (a b c : List UInt8) : Nat → List UInt8 := fun k => if k = 0 then a else if k = 1 then b else c

/-- How many of the first j copies are like copy i, 2 at most. -/
def cntN (x : Nat → List UInt8) (i : Nat) : Nat → Nat
  | 0 => 0
  | j + 1 => if x i = x j then min (cntN x i j + 1) 2 else cntN x i j

theorem cntN_le (x : Nat → List UInt8) (i : Nat) : ∀ j, cntN x i j ≤ 2
  | 0 => by simp [cntN]
  | j + 1 => by
    have := cntN_le x i j
    unfold cntN
    split <;> omega

/-- The best one of the first k copies, and its votes. -/
def bv (x : Nat → List UInt8) : Nat → Int × Nat
  | 0 => (-1, 0)
  | k + 1 => match decP (x k) with
    | none => bv x k
    | some p => if (bv x k).1 < 0 ∨ (bv x k).2 < cntN x k 3 ∨ (cntN x k 3 = (bv x k).2 ∧ pgGen (decP (x (bv x k).1.toNat)) < p.1) then ((k : Int), cntN x k 3) else bv x k

theorem bv_none {x : Nat → List UInt8} {k : Nat} (h : decP (x k) = none) : bv x (k + 1) = bv x k := by rw [bv, h]
theorem bv_some {x : Nat → List UInt8} {k : Nat} {p : Int × List UInt8} (h : decP (x k) = some p) :
    bv x (k + 1) = if (bv x k).1 < 0 ∨ (bv x k).2 < cntN x k 3 ∨ (cntN x k 3 = (bv x k).2 ∧ pgGen (decP (x (bv x k).1.toNat)) < p.1) then ((k : Int), cntN x k 3) else bv x k := by rw [bv, h]

/-- The best one is one that is told, or there is none. -/
theorem bv_is (x : Nat → List UInt8) : ∀ k, (bv x k).1 = -1 ∨ ∃ j p, j < k ∧ (bv x k).1 = (j : Int) ∧ decP (x j) = some p
  | 0 => .inl rfl
  | k + 1 => by
    have ih := bv_is x k
    have ih' : (bv x k).1 = -1 ∨ ∃ j p, j < k + 1 ∧ (bv x k).1 = (j : Int) ∧ decP (x j) = some p := by
      rcases ih with h | ⟨j, p, h1, h2, h3⟩
      · exact .inl h
      · exact .inr ⟨j, p, by omega, h2, h3⟩
    cases h : decP (x k) with
    | none => rw [bv_none h]; exact ih'
    | some p =>
      rw [bv_some h]
      split
      · exact .inr ⟨k, p, by omega, rfl, h⟩
      · exact ih'

theorem bv_votes (x : Nat → List UInt8) : ∀ k, (bv x k).2 ≤ 2
  | 0 => by simp [bv]
  | k + 1 => by
    cases h : decP (x k) with
    | none => rw [bv_none h]; exact bv_votes x k
    | some p =>
      rw [bv_some h]
      split
      · exact cntN_le x k 3
      · exact bv_votes x k

/-- Is another one of the first j copies like copy i? -/
def like (x : Nat → List UInt8) (i : Nat) : Nat → Bool
  | 0 => false
  | j + 1 => like x i j || (decide (j ≠ i) && (x j == x i))

/-- The reference's: the first one that is like another, or the newest one of the first k. -/
def rv (x : Nat → List UInt8) : Nat → Option Nat ⊕ (Int × Int)
  | 0 => .inr (-1, 0)
  | k + 1 => match rv x k with
    | .inl i => .inl i
    | .inr (b, g) => match decP (x k) with
      | none => .inr (b, g)
      | some p => if like x k 3 then .inl (some k) else if b < 0 ∨ g < p.1 then .inr ((k : Int), p.1) else .inr (b, g)

/-- Those that are unlike copy i, of the first k. -/
def minor (x : Nat → List UInt8) (i : Nat) : Nat → List Int
  | 0 => []
  | k + 1 => if x k = x i then minor x i k else minor x i k ++ [(k : Int)]

theorem minor_len (x : Nat → List UInt8) (i : Nat) : ∀ k, (minor x i k).length ≤ k
  | 0 => by simp [minor]
  | k + 1 => by
    have := minor_len x i k
    unfold minor
    split
    · omega
    · simp; omega

theorem minor_of {x : Nat → List UInt8} {i j : Nat} (h : x i = x j) : ∀ k, minor x i k = minor x j k
  | 0 => rfl
  | k + 1 => by rw [minor, minor, h, minor_of h k]

/-- Who wins: the program's. -/
def winP (x : Nat → List UInt8) : Option Nat := if (bv x 3).1 < 0 then none else some (bv x 3).1.toNat
/-- Who wins: the reference's. -/
def winR (x : Nat → List UInt8) : Option Nat := match rv x 3 with
  | .inl i => i
  | .inr (b, _) => if b < 0 then none else some b.toNat

theorem win_same (x : Nat → List UInt8) : (winP x).map x = (winR x).map x := by
  obtain ⟨a, ha⟩ : ∃ a, x 0 = a := ⟨_, rfl⟩
  obtain ⟨b, hb⟩ : ∃ b, x 1 = b := ⟨_, rfl⟩
  obtain ⟨c, hc⟩ : ∃ c, x 2 = c := ⟨_, rfl⟩
  by_cases h1 : a = b
  · subst h1
    by_cases h2 : a = c
    · subst h2
      cases hd : decP a <;> simp [winP, winR, bv, rv, cntN, like, ha, hb, hc, hd, pgGen]
    · have h2' : ¬ c = a := fun e => h2 e.symm
      cases hd : decP a <;> cases he : decP c <;> simp [winP, winR, bv, rv, cntN, like, ha, hb, hc, hd, he, h2, h2', pgGen]
  · have h1' : ¬ b = a := fun e => h1 e.symm
    by_cases h2 : a = c
    · subst h2
      cases hd : decP a <;> cases he : decP b <;> simp [winP, winR, bv, rv, cntN, like, ha, hb, hc, hd, he, h1, h1', pgGen]
    · have h2' : ¬ c = a := fun e => h2 e.symm
      by_cases h3 : b = c
      · subst h3
        cases hd : decP a <;> cases he : decP b <;> simp [winP, winR, bv, rv, cntN, like, ha, hb, hc, hd, he, h1, h1', pgGen]
      · have h3' : ¬ c = b := fun e => h3 e.symm
        by_cases k1 : pgGen (decP a) < pgGen (decP b) <;> by_cases k2 : pgGen (decP a) < pgGen (decP c) <;> by_cases k3 : pgGen (decP b) < pgGen (decP c) <;> cases hd : decP a <;> cases he : decP b <;> cases hf : decP c <;>
          simp only [hd, he, hf, pgGen, Option.map_some, Option.map_none, Option.getD_some, Option.getD_none] at k1 k2 k3 <;>
          simp [winP, winR, bv, rv, cntN, like, ha, hb, hc, hd, he, hf, h1, h1', h2, h2', h3, h3', pgGen, k1, k2, k3] <;> omega

end Go.Proofs.Ytfalaopljodmnaa
