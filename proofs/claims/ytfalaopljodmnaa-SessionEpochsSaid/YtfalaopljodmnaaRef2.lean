/- linnetref1: GetNum, GetBytes. -/
import Derived.Test.YtfalaopljodmnaaRef
namespace Go.Proofs.Ytfalaopljodmnaa
open Go.RowKit

/-- The document's number of four bytes, or more; -1: none. -/
def gnum (l : List UInt8) : Int := if l.length < 4 ∨ 2147483647 < leV (l.take 4) then -1 else leV (l.take 4)

theorem or_i64 (a b i : Nat) (ha : a < 2 ^ i) (hb : a + b * 2 ^ i < 2 ^ 63) : bits .or .i64 (a : Int) ((b : Int) * 2 ^ i) = ((a + b * 2 ^ i : Nat) : Int) := by
  have e : ((b : Int) * 2 ^ i) = ((b * 2 ^ i : Nat) : Int) := by simp
  rw [e, (bits_nat .i64 63 (by decide) (fun n h0 h1 => by rw [IntKind.wrap_i64]; omega) a (b * 2 ^ i) (by omega) (by omega)).2, or_add a b i ha]

theorem leV4 (a b c d : UInt8) : leV [a, b, c, d] = a.toNat + b.toNat * 256 + c.toNat * 65536 + d.toNat * 16777216 := by simp [leV]; omega

set_option maxRecDepth 100000 in
set_option maxHeartbeats 800000 in
theorem getnum_c (v : Value) (l : List UInt8) (w : World) (hr : Rd w v l) :
    Calls Try.prog 23 #[v] w fun e w' => e = .returned (.int .i64 (gnum l)) ∧ Fr F0 w w' := by
  by_cases h4 : l.length < 4
  · have hg : gnum l = -1 := by simp [gnum, h4]
    rw [hg]
    clear hg
    obtain ⟨ao, c, rfl, hlc⟩ := hr.form
    clear hr
    go_enter Try.func23, Try.ntmps23
    go_wp2_with fail
    go_ret
    exact ⟨rfl, Fr.refl _ _⟩
  · obtain ⟨b, o, c, rfl, hlc, hcell⟩ := hr.open (by omega)
    obtain ⟨u0, u1, u2, u3, r, rfl⟩ : ∃ u0 u1 u2 u3 r, l = u0 :: u1 :: u2 :: u3 :: r := by
      match l, h4 with
      | u0 :: u1 :: u2 :: u3 :: r, _ => exact ⟨u0, u1, u2, u3, r, rfl⟩
      | [], h => simp at h
      | [_], h => simp at h
      | [_, _], h => simp at h
      | [_, _, _], h => simp at h
    have c0 := hcell 0 u0 rfl
    have c1 := hcell 1 u1 rfl
    have c2 := hcell 2 u2 rfl
    have c3 := hcell 3 u3 rfl
    have l0 := u0.toNat_lt
    have l1 := u1.toNat_lt
    have l2 := u2.toNat_lt
    have l3 := u3.toNat_lt
    have hlen : (u0 :: u1 :: u2 :: u3 :: r).length = r.length + 4 := rfl
    rw [hlen] at hlc h4 ⊢
    rw [Nat.add_zero] at c0
    have hv := leV4 u0 u1 u2 u3
    by_cases hb : 127 < u3.toNat
    · have hg : gnum (u0 :: u1 :: u2 :: u3 :: r) = -1 := by
        have : 2147483647 < leV [u0, u1, u2, u3] := by omega
        simp [gnum, this]
      rw [hg]
      clear hg hv hr hcell hlen
      have hb' : ((127 : Int) < (u3.toNat : Int)) := by omega
      go_enter Try.func23, Try.ntmps23
      go_wp2_with fail
      go_ret
      exact ⟨rfl, Fr.refl _ _⟩
    · have hg : gnum (u0 :: u1 :: u2 :: u3 :: r) = ((u0.toNat + u1.toNat * 256 + u2.toNat * 65536 + u3.toNat * 16777216 : Nat) : Int) := by
        have : ¬ 2147483647 < leV [u0, u1, u2, u3] := by omega
        have h5 : ¬ r.length + 1 + 1 + 1 + 1 < 4 := by omega
        simp only [gnum, List.length_cons, List.take_succ_cons, List.take_zero, this, h5, or_self, if_false]
        rw [hv]
      rw [hg]
      have hb' : ¬ ((127 : Int) < (u3.toNat : Int)) := by omega
      have e1 : bits .or .i64 (u0.toNat : Int) ((u1.toNat : Int) * 256) = _ := or_i64 u0.toNat u1.toNat 8 (by omega) (by omega)
      have e2 : bits .or .i64 _ ((u2.toNat : Int) * 65536) = _ := or_i64 (u0.toNat + u1.toNat * 2 ^ 8) u2.toNat 16 (by omega) (by omega)
      have e3 : bits .or .i64 _ ((u3.toNat : Int) * 16777216) = _ := or_i64 (u0.toNat + u1.toNat * 2 ^ 8 + u2.toNat * 2 ^ 16) u3.toNat 24 (by omega) (by omega)
      have E := hid (And.intro e1 (And.intro e2 e3))
      clear hg hv hr hcell hlen e1 e2 e3
      go_enter Try.func23, Try.ntmps23
      go_wp2_with fail
      go_quiet (fail)
      go_wp2_with fail
      go_ret
      refine ⟨?_, Fr.drewN (Fr.refl _ _) _⟩
      exact ret_int (by rw [E.out.1, E.out.2.1, E.out.2.2])

/-- The document's bytes: what they are, what is behind them, the error. -/
def gbytes (l : List UInt8) (most : Int) : List UInt8 × List UInt8 × Int :=
  if gnum l < 0 ∨ (l.length : Int) - 4 < gnum l then ([], [], 2) else if most < gnum l then ([], [], 3) else ((l.drop 4).take (gnum l).toNat, l.drop (4 + (gnum l).toNat), 0)

theorem gnum_ge (l : List UInt8) : -1 ≤ gnum l ∧ gnum l ≤ 2147483647 := by unfold gnum; split <;> omega

set_option maxRecDepth 100000 in
set_option maxHeartbeats 800000 in
theorem getbytes_c (v : Value) (l : List UInt8) (most : Int) (w : World) (hr : Rd w v l) (hl : l.length ≤ 70368744177664) :
    Calls Try.prog 26 #[v, .int .i64 most] w fun e w' => ∃ v1 v2, e = .returned (.tuple #[v1, v2, .int .i64 (gbytes l most).2.2]) ∧ Rd w' v1 (gbytes l most).1 ∧ Rd w' v2 (gbytes l most).2.1 ∧ Fr F0 w w' ∧
      (∀ k, v1.ownBlock = some k → v.ownBlock = some k) ∧ (∀ k, v2.ownBlock = some k → v.ownBlock = some k) := by
  have hg := getnum_c v l w hr
  have hb := gnum_ge l
  unfold gbytes
  generalize gnum l = n at *
  have HG := hid hg
  clear hg
  obtain ⟨ao, c, rfl, hlc⟩ := hr.form
  by_cases h1 : n < 0
  · rw [if_pos (.inl h1)]
    clear hr
    go_enter Try.func26, Try.ntmps26
    go_wp2_with fail
    refine HG.out.mono ?_
    rintro e w1 ⟨rfl, hf⟩
    have HF := hid hf
    clear hf
    go_wp2_with fail
    go_ret3
    exact ⟨_, _, rfl, Rd.nil _, Rd.nil _, HF.out, by simp [Value.ownBlock], by simp [Value.ownBlock]⟩
  · by_cases h2 : (l.length : Int) - 4 < n
    · rw [if_pos (.inr h2)]
      clear hr
      go_enter Try.func26, Try.ntmps26
      go_wp2_with fail
      refine HG.out.mono ?_
      rintro e w1 ⟨rfl, hf⟩
      have HF := hid hf
      clear hf
      go_wp2_with fail
      go_ret3
      exact ⟨_, _, rfl, Rd.nil _, Rd.nil _, HF.out, by simp [Value.ownBlock], by simp [Value.ownBlock]⟩
    · by_cases h3 : most < n
      · rw [if_neg (by omega), if_pos h3]
        clear hr
        go_enter Try.func26, Try.ntmps26
        go_wp2_with fail
        refine HG.out.mono ?_
        rintro e w1 ⟨rfl, hf⟩
        have HF := hid hf
        clear hf
        go_wp2_with fail
        go_ret3
        exact ⟨_, _, rfl, Rd.nil _, Rd.nil _, HF.out, by simp [Value.ownBlock], by simp [Value.ownBlock]⟩
      · rw [if_neg (by omega), if_neg h3]
        obtain ⟨n, rfl⟩ := Int.eq_ofNat_of_zero_le (show 0 ≤ n by omega)
        obtain ⟨a1, m1, c1, r1, P1⟩ := run_slB (P := Try.prog) 25 5 Try.underlying25 infoB _ l hr (some (.int .i64 4)) (some (.int .i64 (4 + (n : Int)))) 4 (4 + n) (.inr rfl) (.inr (by simp)) (by omega) (by omega)
        obtain ⟨a2, m2, c2, r2, P2⟩ := run_slB (P := Try.prog) 25 5 Try.underlying25 infoB _ l hr (some (.int .i64 (4 + (n : Int)))) none (4 + n) l.length (.inr (by simp)) (.inl ⟨rfl, rfl⟩) (by omega) (by omega)
        clear hr
        go_enter Try.func26, Try.ntmps26
        go_wp2_with fail
        refine HG.out.mono ?_
        rintro e w1 ⟨rfl, hf⟩
        have HF := hid hf
        clear hf
        go_wp2_with fail
        go_quiet (fail)
        go_wp2_with fail
        go_ret3
        rename_i nq _
        refine ⟨_, _, rfl, ?_, ?_, Fr.drewN HF.out _, P1.out.2.2.1, P2.out.2.2.1⟩
        · have := P1.out.1.keep0 (Fr.drewN HF.out nq)
          simpa using this
        · have := P2.out.1.keep0 (Fr.drewN HF.out nq)
          rw [List.take_of_length_le (by simp)] at this
          simpa using this

end Go.Proofs.Ytfalaopljodmnaa
