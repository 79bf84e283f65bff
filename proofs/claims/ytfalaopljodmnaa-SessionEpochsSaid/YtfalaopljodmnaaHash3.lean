/- SHA-256, the program's: Sum. -/
import Derived.Test.YtfalaopljodmnaaHash2
namespace Go.Proofs.Ytfalaopljodmnaa
open Go.RowKit

/-- How many zeros stand in the padding. -/
def padZ (n : Nat) : Nat := (119 - n % 64) % 64

/-- The greatest byte first: the first j of eight bytes of N. -/
def beN (N : Nat) : Nat → List UInt8
  | 0 => []
  | j + 1 => beN N j ++ [UInt8.ofNat (N / 2 ^ (8 * (7 - j)))]

/-- The padding of n bytes. -/
def padOf (n : Nat) : List UInt8 := 128 :: List.replicate (padZ n) 0 ++ beN (n * 8) 8

/-- The bytes of the first j words of a state. -/
def outN (s : S8) : Nat → List UInt8
  | 0 => []
  | j + 1 => outN s j ++ [UInt8.ofNat ((s.get j).toNat / 16777216), UInt8.ofNat ((s.get j).toNat / 65536), UInt8.ofNat ((s.get j).toNat / 256), UInt8.ofNat (s.get j).toNat]

theorem beN_len (N : Nat) : ∀ j, (beN N j).length = j
  | 0 => rfl
  | j + 1 => by simp [beN, beN_len N j]

theorem outN_len (s : S8) : ∀ j, (outN s j).length = 4 * j
  | 0 => rfl
  | j + 1 => by simp [outN, outN_len s j]; omega

/-- A slice's length. -/
def vlen : Value → Nat
  | .slice _ m _ => m
  | _ => 0

theorem run_index8 (S : S8) (w : World) : ∀ j : Nat, j < 8 → (Instr.index 134 (.agg S.arr) (.int .i64 j)).run Try.prog w = .ok (.int .u32 (S.get j)) w
  | 0, _ => by kernel_rfl
  | 1, _ => by kernel_rfl
  | 2, _ => by kernel_rfl
  | 3, _ => by kernel_rfl
  | 4, _ => by kernel_rfl
  | 5, _ => by kernel_rfl
  | 6, _ => by kernel_rfl
  | 7, _ => by kernel_rfl
  | j + 8, h => by omega

/-- The sum, told. -/
def Summed (w : World) (s : S8) (M : List UInt8) (e : Ending) (w' : World) : Prop :=
  ∃ r, e = .returned r ∧ Ob w' 5 r (outN (blk s M (M.length / 64)) 8) ∧ Fr F0 w w' ∧ New w r

set_option maxRecDepth 100000 in
set_option maxHeartbeats 3200000 in
theorem hsum_c (hb : Nat) (s : S8) (v : Value) (n : Nat) (l : List UInt8) (w : World) (h : HB w hb s true v n) (hs : s.ok) (hv : Rd w v l) (hl : l.length ≤ n) (hn : n ≤ 35184372088832) :
    Calls Try.prog 82 #[.pointer (some ⟨hb, 0, none⟩)] w fun e w' => Summed w s (l ++ padOf n) e w' := by
  have HS := hid hs
  have HL := hid hl
  go_enter Try.func82, Try.ntmps82
  go_wp2_with fail
  refine (copy_c hb s true v n l _ h hv (by omega)).mono ?_
  rintro e w2 ⟨nb, v2, rfl, h2, r2, f2, hnb, b2⟩
  clear h hv hs hl
  have c10 := h2.c10
  have H2 := hid (show HB w2 nb s true v2 n from h2)
  have R2 := hid r2
  have F2 := hid f2
  have B2 := hid b2
  clear h2 r2 f2 b2
  go_wp2_with fail
  have HZ := hid (show padZ n < 64 ∧ (n + 1 + padZ n) % 64 = 56 from by unfold padZ; omega)
  have O0 := hid (Ob.lit (w := w2) (e := 5) (cs := #[.int .u8 128]) [128] rfl (by simp))
  go_loopw [5] (fun x wr => ∃ (j : Nat) (a : Option Addr) (c : Nat), j ≤ padZ n ∧ x = .slice a (j + 1) c ∧ Hid (Ob wr 5 (.slice a (j + 1) c) (128 :: List.replicate j 0) ∧ Fr F0 w2 wr ∧ New w2 (.slice a (j + 1) c))) (fun x _ => 65 - vlen x)
  case atStart => exact ⟨0, _, _, Nat.zero_le _, rfl, hid ⟨O0.out, (Fr.refl _ _).alloc _, fun k hk => by simp [Value.ownBlock] at hk; omega⟩⟩
  case round =>
    clear O0
    obtain ⟨j, a, c, hj, rfl, H⟩ := hrel
    have q10 := (H2.out.keep H.out.2.1 (fun e => e)).c10
    have hz := HZ.out
    by_cases ht : (n + 1 + j) % 64 = 56
    · have hjz : j = padZ n := by omega
      have ht' : ((n : Int) + ((j : Int) + 1)) % 64 = 56 := by omega
      have e1 : IntKind.i64.wrap ((n : Int) + ((j : Int) + 1)) = (n : Int) + ((j : Int) + 1) := IntWalk.i64_in _ (by omega)
      have H' := hid (show Ob wr 5 (.slice a (j + 1) c) (128 :: List.replicate (padZ n) 0) ∧ Fr F0 w2 wr ∧ New w2 (.slice a (j + 1) c) from ⟨by rw [← hjz]; exact H.out.1, H.out.2⟩)
      have hz64 := hz.1
      clear hz H HZ hjz
      obtain ⟨PZ, HPZ⟩ : ∃ PZ : List UInt8, Hid (128 :: List.replicate (padZ n) 0 = PZ) := ⟨_, hid rfl⟩
      rw [HPZ.out] at H'
      have HPL := hid (show PZ.length ≤ 65 from by rw [← HPZ.out]; simp; omega)
      clear hz64
      go_wp2_with fail
      go_loopw [5, 6] (fun x y wr => ∃ (j : Nat) (a : Option Addr) (c L : Nat) (i : Int), j ≤ 8 ∧ i = 7 - j ∧ y = .int .i64 i ∧ x = .slice a L c ∧ Hid (Ob wr 5 (.slice a L c) (PZ ++ beN (n * 8) j) ∧ Fr F0 w2 wr ∧ New w2 (.slice a L c))) (fun _ y _ => (intOf y + 1).toNat)
      case atStart => exact ⟨0, _, _, _, 7, by omega, rfl, rfl, rfl, by rw [show beN (n * 8) 0 = [] from rfl, List.append_nil]; exact H'⟩
      case round =>
        clear H' q10 ht ht' e1 hj
        obtain ⟨j, a, c, L, i, hj, hi, rfl, rfl, H⟩ := hrel
        by_cases hlt : j < 8
        · obtain ⟨i, rfl⟩ := Int.eq_ofNat_of_zero_le (show 0 ≤ i by omega)
          have hi' : i = 7 - j := by omega
          have e8 : IntKind.i64.wrap (8 * (i : Int)) = 8 * (i : Int) := IntWalk.i64_in _ (by omega)
          have HI := hid hi'
          have i7 : i ≤ 7 := by omega
          clear hi hi'
          go_wp2_with (at_builtin; refine wpList_appB rfl (.tmp 37) (.tmp 43) 25 rfl 5 Try.underlying25 infoB _ (.slice (some ⟨wr.heap.size, 0, none⟩) 1 1) (PZ ++ beN (n * 8) j) [UInt8.ofNat (n * 8 / 2 ^ (8 * (7 - j)))] rfl rfl ?c1 ?c2 ?c3 ?_)
          case c1 => exact H.out.1.keep0 ((Fr.refl _ _).alloc _)
          case c2 => have := Rd.one wr (UInt8.ofNat (n * 8 / 2 ^ (8 * (7 - j)))) 5; rw [b8_ofNat, ← HI.out] at this; rw [← HI.out]; simpa using this
          case c3 => have := HPL.out; simp [beN_len]; omega
          intro v3 w3 h3 g3 e3 _
          obtain ⟨a3, L3, c3, rfl⟩ := h3.form
          have H3 := hid (show Ob w3 5 (.slice a3 L3 c3) (PZ ++ beN (n * 8) (j + 1)) ∧ Fr F0 w2 w3 ∧ New w2 (.slice a3 L3 c3) from
            ⟨by rw [beN]; exact h3, (H.out.2.1.alloc _).grown g3 (fun i e hi => by have := H.out.2.2 i e; omega), fun i e => by have := H.out.2.1.size; rcases e3 i e with e | e; exact H.out.2.2 i e; omega⟩)
          clear h3 g3 e3
          go_wp2_with fail
          exact ⟨⟨j + 1, _, _, _, (i : Int) - 1, by omega, by have := HI.out; omega, rfl, rfl, H3⟩, by simp [intOf]⟩
        · have hj8 : j = 8 := by omega
          have hi0 : ¬ 0 ≤ i := by omega
          have H' := hid (hj8 ▸ H.out)
          clear H hj8 hlt hj
          go_wp2_with fail
          have HPD : Hid (PZ ++ beN (n * 8) 8 = padOf n) := hid (by rw [← HPZ.out]; rfl)
          rw [HPD.out] at H'
          have HPN := hid (show (padOf n).length ≤ 73 from by have := HPL.out; rw [← HPD.out, List.length_append, beN_len]; omega)
          refine (add_c nb s true v2 (.slice a L c) n l (padOf n) _ (H2.out.keep H'.out.2.1 (fun e => e)) HS.out (R2.out.keep0 H'.out.2.1) H'.out.1.rd (fun k hk => B2.out k (rblk_own hk)) (fun k hk e => ?nbx) ?lx (by omega) ?nx).mono ?_
          case nbx => have := H'.out.2.2 k (rblk_own hk); have := H2.out.lt; omega
          case lx => have := HPN.out; have := HL.out; omega
          case nx => have := HPN.out; omega
          rintro e w5 ⟨rfl, v5, h5, r5, b5, f5⟩
          have H5 := hid (show HB w5 nb (blk s (l ++ padOf n) ((l ++ padOf n).length / 64)) true v5 _ from h5)
          have HB5 := hid (blk_ok HS.out (l ++ padOf n) ((l ++ padOf n).length / 64))
          have F5 := hid (show Fr F0 w w5 from Fr.trans (F2.out.trans H'.out.2.1 (fun _ _ e => e)) f5 (fun i hi e => by omega))
          clear h5 r5 b5 f5 H'
          obtain ⟨S, HSE⟩ : ∃ S, Hid (blk s (l ++ padOf n) ((l ++ padOf n).length / 64) = S) := ⟨_, hid rfl⟩
          rw [HSE.out] at H5 HB5
          go_wp2_with (refine wpList_loadS rfl (.tmp 50) rfl H5.out rfl ?_)
          go_loopw [7, 52] (fun x y wr => ∃ (j : Nat) (a : Option Addr) (c L : Nat), j ≤ 8 ∧ y = .int .i64 j ∧ x = .slice a L c ∧ Hid (Ob wr 5 (.slice a L c) (outN S j) ∧ Fr F0 w5 wr ∧ New w5 (.slice a L c))) (fun _ y _ => 8 - (intOf y).toNat)
          case atStart => exact ⟨0, _, _, _, by omega, rfl, rfl, hid ⟨Ob.nil _ _, Fr.refl _ _, New.nil _ _ _⟩⟩
          case round =>
            obtain ⟨j, a, c, L, hj, rfl, rfl, H⟩ := hrel
            by_cases hlt : j < 8
            · have hidx := run_index8 S wr j hlt
              obtain ⟨s0, s1⟩ := S.get_w HB5.out j
              have HX : Hid (outN S (j + 1) = outN S j ++ [UInt8.ofNat ((S.get j).toNat / 16777216), UInt8.ofNat ((S.get j).toNat / 65536), UInt8.ofNat ((S.get j).toNat / 256), UInt8.ofNat (S.get j).toNat]) := hid rfl
              generalize S.get j = x at *
              go_wp2_with (at_builtin; refine wpList_appB rfl (.tmp 55) (.tmp 67) 25 rfl 5 Try.underlying25 infoB _ (.slice (some ⟨wr.heap.size, 0, none⟩) 4 4) (outN S j) [UInt8.ofNat (x.toNat / 16777216), UInt8.ofNat (x.toNat / 65536), UInt8.ofNat (x.toNat / 256), UInt8.ofNat x.toNat] rfl rfl ?c1 ?c2 ?c3 ?_)
              case c1 => exact H.out.1.keep0 ((Fr.refl _ _).alloc _)
              case c2 =>
                obtain ⟨x, rfl⟩ := Int.eq_ofNat_of_zero_le s0
                exact (Ob.lit (w := wr) (e := 5) [UInt8.ofNat (x / 16777216), UInt8.ofNat (x / 65536), UInt8.ofNat (x / 256), UInt8.ofNat x] (by simp [b8_ofNat]; omega) (by simp)).rd
              case c3 => rw [outN_len]; simp; omega
              intro v3 w3 h3 g3 e3 _
              obtain ⟨a3, L3, c3, rfl⟩ := h3.form
              have H3 := hid (show Ob w3 5 (.slice a3 L3 c3) (outN S (j + 1)) ∧ Fr F0 w5 w3 ∧ New w5 (.slice a3 L3 c3) from
                ⟨by rw [HX.out]; exact h3, (H.out.2.1.alloc _).grown g3 (fun i e hi => by have := H.out.2.2 i e; omega), fun i e => by have := H.out.2.1.size; rcases e3 i e with e | e; exact H.out.2.2 i e; omega⟩)
              clear h3 g3 e3
              go_wp2_with fail
              exact ⟨⟨j + 1, _, _, _, by omega, by go_num, rfl, H3⟩, by simp [intOf]; omega⟩
            · have hj8 : j = 8 := by omega
              have hge : ¬ (j : Int) < 8 := by omega
              have HE := hid (show Summed w s (l ++ padOf n) (.returned (.slice a L c)) wr from ⟨_, rfl, by rw [HSE.out, ← hj8]; exact H.out.1, F5.out.trans H.out.2.1 (fun _ _ e => e), fun k hk => Nat.le_trans F5.out.size (H.out.2.2 k hk)⟩)
              clear hj8 hlt hj
              go_wp2_with fail
              go_ret
              exact HE.out
    · have hjz : j + 1 ≤ padZ n := by
        rcases Nat.lt_or_ge j (padZ n) with h | h
        · omega
        · exact absurd (by have : j = padZ n := by omega
                           rw [this]; exact hz.2) ht
      have ht' : ¬ ((n : Int) + ((j : Int) + 1)) % 64 = 56 := by omega
      have e1 : IntKind.i64.wrap ((n : Int) + ((j : Int) + 1)) = (n : Int) + ((j : Int) + 1) := IntWalk.i64_in _ (by omega)
      have hz0 := hz.1
      have HZ0 := hid hz0
      clear hz
      go_wp2_with (at_builtin; refine wpList_appB rfl (.tmp 30) (.tmp 31) 25 rfl 5 Try.underlying25 infoB _ (.slice (some ⟨wr.heap.size, 0, none⟩) 1 1) (128 :: List.replicate j 0) [0] rfl rfl ?c1 ?c2 ?c3 ?_)
      case c1 => exact H.out.1.keep0 ((Fr.refl _ _).alloc _)
      case c2 => exact Rd.one wr 0 5
      case c3 => have := HZ0.out; simp; omega
      intro v3 w3 h3 g3 e3 _
      have h3 : Ob w3 5 v3 (128 :: List.replicate (j + 1) 0) := by rw [List.replicate_succ']; exact h3
      have hlen := h3.rd.form
      rw [show (128 :: List.replicate (j + 1) (0 : UInt8)).length = j + 1 + 1 from by simp] at hlen
      obtain ⟨a3, c3, rfl, _⟩ := hlen
      have H3 := hid (show Ob w3 5 (.slice a3 (j + 1 + 1) c3) (128 :: List.replicate (j + 1) 0) ∧ Fr F0 w2 w3 ∧ New w2 (.slice a3 (j + 1 + 1) c3) from
        ⟨h3, (H.out.2.1.alloc _).grown g3 (fun i e hi => by have := H.out.2.2 i e; omega), fun i e => by have := H.out.2.1.size; rcases e3 i e with e | e; exact H.out.2.2 i e; omega⟩)
      clear h3 g3 e3
      go_wp2_with fail
      exact ⟨⟨j + 1, _, _, hjz, rfl, H3⟩, by simp only [vlen]; have := HZ0.out; omega⟩

end Go.Proofs.Ytfalaopljodmnaa
