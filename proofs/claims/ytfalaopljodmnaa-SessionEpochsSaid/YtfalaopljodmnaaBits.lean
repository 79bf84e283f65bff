/- 'x | y << n' of numbers that do not meet: the sum. -/
import Derived.Laws.Bits64b
import Derived.Laws.BitsLemmas
import Derived.Test.YtfalaopljodmnaaMath
namespace Go.Proofs.Ytfalaopljodmnaa

theorem or_add (a b i : Nat) (h : a < 2 ^ i) : a ||| b * 2 ^ i = a + b * 2 ^ i := by
  rw [Nat.or_comm, Nat.mul_comm, ← Nat.two_pow_add_eq_or_of_lt h b, Nat.add_comm]

theorem p256 (k : Nat) : 256 ^ k = 2 ^ (8 * k) := by rw [Nat.pow_mul]

theorem byte_lt (a u k : Nat) (ha : a < 256 ^ k) (hu : u < 256) (hk : k < 8) : a + u * 256 ^ k < 18446744073709551616 := by
  have h1 : u * 256 ^ k ≤ 255 * 256 ^ k := Nat.mul_le_mul_right _ (by omega)
  have h2 : 256 ^ (k + 1) ≤ 256 ^ 8 := Nat.pow_le_pow_right (by omega) (by omega)
  rw [Nat.pow_succ] at h2
  have : (256 : Nat) ^ 8 = 18446744073709551616 := by decide
  omega

theorem or_u64 (a u k : Nat) (ha : a < 256 ^ k) (hu : u < 256) (hk : k < 8) : bits .or .u64 (a : Int) (IntKind.u64.wrap ((u : Int) * 2 ^ (8 * k))) = ((a + u * 256 ^ k : Nat) : Int) := by
  have hl := byte_lt a u k ha hu hk
  have e : ((u : Int) * 2 ^ (8 * k)) = ((u * 256 ^ k : Nat) : Int) := by rw [p256]; simp
  rw [e, IntKind.wrap_u64, show ((u * 256 ^ k : Nat) : Int) % 18446744073709551616 = ((u * 256 ^ k : Nat) : Int) from by omega, bits_or_u64_nat _ _ (by omega) (by omega), p256, or_add a u _ (by rw [← p256]; exact ha)]

theorem get_step (l : List UInt8) (k : Nat) (u : UInt8) (hk : k < 8) (h : l[k]? = some u) :
    bits .or .u64 (leV (l.take k) : Int) (IntKind.u64.wrap ((u.toNat : Int) * 2 ^ (8 * k))) = ((leV (l.take (k + 1)) : Nat) : Int) := by
  obtain ⟨hl, e⟩ := List.getElem?_eq_some_iff.1 h
  have hlen : (l.take k).length = k := by simp; omega
  have hlt := leV_lt (l.take k)
  rw [hlen] at hlt
  rw [or_u64 _ _ _ hlt u.toNat_lt hk, List.take_succ_eq_append_getElem hl, leV_snoc, hlen, e]

end Go.Proofs.Ytfalaopljodmnaa
