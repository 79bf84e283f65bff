/- Numbers in bytes, the least first. Plain lists. -/
import Init
namespace Go.Proofs.Ytfalaopljodmnaa

/-- n as 'k' bytes, the least first. -/
def leB : Nat → Nat → List UInt8
  | 0, _ => []
  | k + 1, n => UInt8.ofNat n :: leB k (n / 256)

theorem leB_length (k n : Nat) : (leB k n).length = k := by
  induction k generalizing n with
  | zero => rfl
  | succ k ih => simp [leB, ih]

theorem leB_succ (k n : Nat) : leB (k + 1) n = leB k n ++ [UInt8.ofNat (n / 256 ^ k)] := by
  induction k generalizing n with
  | zero => simp [leB]
  | succ k ih =>
    rw [leB, ih (n / 256), leB, Nat.div_div_eq_div_mul, Nat.pow_succ, Nat.mul_comm]; rfl

/-- The number of bytes, the least first. -/
def leV : List UInt8 → Nat
  | [] => 0
  | c :: l => c.toNat + 256 * leV l

theorem leV_snoc (l : List UInt8) (c : UInt8) : leV (l ++ [c]) = leV l + c.toNat * 256 ^ l.length := by
  induction l with
  | nil => simp [leV]
  | cons a l ih => simp only [List.cons_append, leV, ih, List.length_cons, Nat.pow_succ, Nat.mul_add]; rw [Nat.add_assoc, Nat.mul_left_comm, Nat.mul_comm 256 (256 ^ _)]

theorem leV_lt (l : List UInt8) : leV l < 256 ^ l.length := by
  induction l with
  | nil => simp [leV]
  | cons a l ih => simp only [leV, List.length_cons, Nat.pow_succ]; have := a.toNat_lt; omega

theorem leV_leB (k n : Nat) : leV (leB k n) = n % 256 ^ k := by
  induction k generalizing n with
  | zero => simp [leB, leV, Nat.mod_one]
  | succ k ih =>
    rw [leB, leV, ih, UInt8.toNat_ofNat', show n % 2 ^ 8 = n % 256 from rfl, Nat.pow_succ, Nat.mul_comm (256 ^ k) 256, Nat.mod_mul]

end Go.Proofs.Ytfalaopljodmnaa
