/- SHA-256: a word turned; four bytes as a word. -/
import Derived.Test.YtfalaopljodmnaaRef2
namespace Go.Proofs.Ytfalaopljodmnaa
open Go.RowKit

/-- x turned to the right by k. -/
def rt (k : Nat) (x : Int) : Int := bits .or .u32 (x / 2 ^ k) (x * 2 ^ (32 - k) % 4294967296)

/-- A word's bounds. -/
def W32 (x : Int) : Prop := 0 ≤ x ∧ x < 4294967296

theorem bits_u32 (op : BinOp) (x y : Int) : W32 (bits op .u32 x y) := by
  unfold bits W32
  simp only [IntKind.wrap_u32]
  exact ⟨Int.emod_nonneg _ (by omega), Int.emod_lt_of_pos _ (by omega)⟩

theorem rt_w (k : Nat) (x : Int) : W32 (rt k x) := bits_u32 _ _ _

theorem or_comm32 (x y : Int) : bits .or .u32 x y = bits .or .u32 y x := by
  unfold bits
  simp only [BitVec.or_comm]

theorem and31 (k : Int) (h0 : 1 ≤ k) (h1 : k ≤ 31) : bits .and .u64 (IntKind.u64.wrap (-k)) 31 = 32 - k := by
  obtain ⟨k, rfl⟩ := Int.eq_ofNat_of_zero_le (show 0 ≤ k by omega)
  have e : IntKind.u64.wrap (-(k : Int)) = ((18446744073709551616 - k : Nat) : Int) := by rw [IntKind.wrap_u64]; omega
  have e31 : (31 : Int) = ((31 : Nat) : Int) := rfl
  rw [e, e31, bits_and_u64_nat _ _ (by omega) (by omega), show (31 : Nat) = 2 ^ 5 - 1 from rfl, Nat.and_two_pow_sub_one_eq_mod]
  omega

theorem rl32_c (x k : Int) (w : World) (hk0 : 1 ≤ k) (hk1 : k ≤ 31) :
    Calls Try.prog 92 #[.int .u32 x, .int .i64 (-k)] w fun e w' => e = .returned (.int .u32 (rt k.toNat x)) ∧ w' = w := by
  have hs := and31 k hk0 hk1
  go_enter Try.func92, Try.ntmps92
  go_wp2_with fail
  go_ret
  refine ⟨ret_int ?_, rfl⟩
  unfold rt
  rw [or_comm32, show (32 - k).toNat = 32 - k.toNat from by omega]
  try rw [show (32 - (32 - k)).toNat = k.toNat from by omega]

theorem turn_c (x k : Int) (w : World) (hk0 : 1 ≤ k) (hk1 : k ≤ 31) :
    Calls Try.prog 90 #[.int .u32 x, .int .i64 k] w fun e w' => e = .returned (.int .u32 (rt k.toNat x)) ∧ w' = w := by
  go_enter Try.func90, Try.ntmps90
  go_wp2_with fail
  refine (rl32_c x k _ hk0 hk1).mono ?_
  rintro e w1 ⟨rfl, hw⟩
  subst hw
  go_wp2_with fail
  go_ret
  exact ⟨rfl, rfl⟩

theorem rot_c (x k : Int) (w : World) (hk0 : 1 ≤ k) (hk1 : k ≤ 31) :
    Calls Try.prog 80 #[.int .u32 x, .int .i64 k] w fun e w' => e = .returned (.int .u32 (rt k.toNat x)) ∧ ∃ n, w' = w.drewN n := by
  go_enter Try.func80, Try.ntmps80
  go_wp2_with fail
  go_quiet (fail)
  go_wp2_with fail
  go_ret
  refine ⟨ret_int ?_, _, rfl⟩
  unfold rt
  rw [show (32 - k).toNat = 32 - k.toNat from by omega]

/-- Four bytes as a word, the greatest first. -/
def be4 (a b c d : UInt8) : Int := a.toNat * 16777216 + b.toNat * 65536 + c.toNat * 256 + d.toNat

theorem be4_w (a b c d : UInt8) : W32 (be4 a b c d) := by
  have := a.toNat_lt
  have := b.toNat_lt
  have := c.toNat_lt
  have := d.toNat_lt
  unfold be4 W32
  omega

theorem or_hi (a b i : Nat) (hi : b < 2 ^ i) (h : a * 2 ^ i + b < 4294967296) : bits .or .u32 ((a * 2 ^ i : Nat) : Int) (b : Int) = ((a * 2 ^ i + b : Nat) : Int) := by
  rw [(bits_nat .u32 32 (by decide) (fun n h0 h1 => by rw [IntKind.wrap_u32]; omega) (a * 2 ^ i) b (by omega) (by omega)).2, Nat.or_comm, or_add b a i hi, Nat.add_comm]

theorem be4_or (a b c d : UInt8) : bits .or .u32 (bits .or .u32 (bits .or .u32 ((a.toNat : Int) * 16777216) ((b.toNat : Int) * 65536)) ((c.toNat : Int) * 256)) (d.toNat : Int) = be4 a b c d := by
  have ha := a.toNat_lt
  have hb := b.toNat_lt
  have hc := c.toNat_lt
  have hd := d.toNat_lt
  have e1 : bits .or .u32 ((a.toNat : Int) * 16777216) ((b.toNat : Int) * 65536) = ((a.toNat * 2 ^ 24 + b.toNat * 2 ^ 16 : Nat) : Int) := by
    have := or_hi a.toNat (b.toNat * 2 ^ 16) 24 (by omega) (by omega)
    simpa using this
  have e2 : bits .or .u32 ((a.toNat * 2 ^ 24 + b.toNat * 2 ^ 16 : Nat) : Int) ((c.toNat : Int) * 256) = ((a.toNat * 2 ^ 24 + b.toNat * 2 ^ 16 + c.toNat * 2 ^ 8 : Nat) : Int) := by
    have := or_hi (a.toNat * 2 ^ 8 + b.toNat) (c.toNat * 2 ^ 8) 16 (by omega) (by omega)
    have h3 : (a.toNat * 2 ^ 8 + b.toNat) * 2 ^ 16 = a.toNat * 2 ^ 24 + b.toNat * 2 ^ 16 := by omega
    rw [h3] at this
    rw [← this]
    simp
  have e3 : bits .or .u32 ((a.toNat * 2 ^ 24 + b.toNat * 2 ^ 16 + c.toNat * 2 ^ 8 : Nat) : Int) (d.toNat : Int) = ((a.toNat * 2 ^ 24 + b.toNat * 2 ^ 16 + c.toNat * 2 ^ 8 + d.toNat : Nat) : Int) := by
    have := or_hi (a.toNat * 2 ^ 16 + b.toNat * 2 ^ 8 + c.toNat) d.toNat 8 (by omega) (by omega)
    have h3 : (a.toNat * 2 ^ 16 + b.toNat * 2 ^ 8 + c.toNat) * 2 ^ 8 = a.toNat * 2 ^ 24 + b.toNat * 2 ^ 16 + c.toNat * 2 ^ 8 := by omega
    rw [h3] at this
    exact this
  rw [e1, e2, e3]
  unfold be4
  omega

set_option maxRecDepth 100000 in
set_option maxHeartbeats 1600000 in
theorem word_c (v : Value) (l : List UInt8) (a b c d : UInt8) (r : List UInt8) (hl : l = a :: b :: c :: d :: r) (w : World) (hr : Rd w v l) :
    Calls Try.prog 91 #[v] w fun e w' => e = .returned (.int .u32 (be4 a b c d)) ∧ ∃ n, w' = w.drewN n := by
  subst hl
  obtain ⟨bk, o, cp, rfl, hlc, hcell⟩ := hr.open (by simp)
  have c0 := hcell 0 a rfl
  have c1 := hcell 1 b rfl
  have c2 := hcell 2 c rfl
  have c3 := hcell 3 d rfl
  rw [Nat.add_zero] at c0
  have ha := a.toNat_lt
  have hb := b.toNat_lt
  have hc := c.toNat_lt
  have hd := d.toNat_lt
  have hlen : (a :: b :: c :: d :: r).length = r.length + 4 := rfl
  rw [hlen] at hlc ⊢
  have g0 : (0 : Int) < ((r.length + 4 : Nat) : Int) := by omega
  have g1 : (1 : Int) < ((r.length + 4 : Nat) : Int) := by omega
  have g2 : (2 : Int) < ((r.length + 4 : Nat) : Int) := by omega
  have g3 : (3 : Int) < ((r.length + 4 : Nat) : Int) := by omega
  clear hr hcell hlen
  have E := hid (be4_or a b c d)
  go_enter Try.func91, Try.ntmps91
  go_wp2_with fail
  go_quiet (fail)
  go_wp2_with fail
  go_ret
  exact ⟨ret_int E.out, _, rfl⟩

end Go.Proofs.Ytfalaopljodmnaa
