/- linnetlaw9.VoteAsks: the walk. -/
import Derived.Test.YtfalaopljodmnaaVote10
namespace Go.Proofs.Ytfalaopljodmnaa
open Go.RowKit

set_option maxRecDepth 100000 in
set_option maxHeartbeats 800000 in
theorem sum_c2 (v : Value) (n : Int) (ms : List Int) (w : World) (hr : Ri w v ms) (hp : 0 < ms.length) (hm : ∀ m ∈ ms, 0 ≤ m) (h0 : 0 ≤ n) (h1 : n ≤ 9223372036854775807) (hl : ms.length ≤ 1000000) :
    Calls Try.prog 32 #[.int .i64 n, v] w fun e w' => e = .returned (.int .i64 (asum n ms)) ∧ w = w' := by
  obtain ⟨b, o, c, rfl, hlc, hcell⟩ := hr.open hp
  have HC := hid hcell
  have HM := hid hm
  clear hr hcell hm
  go_enter Try.func32, Try.ntmps32
  go_wp2_with fail
  go_loop [0, 5] (fun x i => ∃ (k : Nat) (y : Int), k ≤ ms.length ∧ i = .int .i64 k ∧ x = .int .i64 y ∧ 0 ≤ y ∧ y ≤ 9223372036854775807 ∧ Hid (asum n ms = asum y (ms.drop k))) (fun _ i => ms.length - (intOf i).toNat)
  case atStart => exact ⟨0, n, by omega, rfl, rfl, h0, h1, hid (by simp)⟩
  case round =>
    obtain ⟨k, y, hk, rfl, rfl, hy0, hy1, H⟩ := hrel
    by_cases hlt : k < ms.length
    · obtain ⟨m, hm⟩ : ∃ m, ms[k]? = some m := ⟨_, List.getElem?_eq_getElem hlt⟩
      have hc := HC.out k m hm
      have m0 := HM.out m (List.mem_of_getElem? hm)
      have hd : ms.drop k = m :: ms.drop (k + 1) := by rw [List.drop_eq_getElem_cons hlt]; rw [List.getElem?_eq_getElem hlt] at hm; cases hm; rfl
      have H' := hid (H.out.trans (by rw [hd, asum]))
      clear H hm hd
      by_cases hb : 1099511627776 < y
      · go_wp2_with fail
        go_ret
        exact ⟨ret_int (by rw [H'.out, if_pos (.inl hb)]), rfl⟩
      · by_cases hb2 : 1099511627776 - y < m
        · go_wp2_with fail
          go_ret
          exact ⟨ret_int (by rw [H'.out, if_pos (.inr hb2)]), rfl⟩
        · go_wp2_with fail
          refine ⟨⟨k + 1, y + m, by omega, by go_num, rfl, by omega, by omega, hid (by rw [H'.out, if_neg (by omega)])⟩, by simp [intOf]; omega⟩
    · go_wp2_with fail
      go_ret
      obtain rfl : k = ms.length := by omega
      exact ⟨ret_int (by rw [H.out]; simp [asum]), rfl⟩

theorem vo_of {w : World} {x : Nat → List UInt8} {e : Ending} {w' : World} (h : VoTo w x (winR x) e w') : VoTo w x (winP x) e w' := by
  have hs := win_same x
  cases hp : winP x with
  | none =>
    cases hr : winR x with
    | none => rw [hr] at h; exact h
    | some j => rw [hp, hr] at hs; cases hs
  | some i =>
    cases hr : winR x with
    | none => rw [hp, hr] at hs; cases hs
    | some j =>
      rw [hp, hr] at hs
      have hij : x i = x j := by simpa using hs
      rw [hr] at h
      obtain ⟨v, mv, h1, h2, h3, h4⟩ := h
      dsimp only [Option.bind_some, Option.isSome_some] at h1 h2 h3
      refine ⟨v, mv, ?_, ?_, ?_, h4⟩
      · dsimp only [Option.bind_some, Option.isSome_some]; rw [hij]; exact h1
      · dsimp only [Option.bind_some]; rw [hij]; exact h2
      · dsimp only; rw [minor_of hij]; exact h3

/-- Who counts; what is told. -/
def vGen (x : Nat → List UInt8) : Int := pgGen ((winP x).bind fun i => decP (x i))
def vBody (x : Nat → List UInt8) : List UInt8 := pgBody ((winP x).bind fun i => decP (x i))
def vErr (x : Nat → List UInt8) : Int := if (winP x).isSome then 0 else 10
def vMin (x : Nat → List UInt8) : List Int := match winP x with | none => [] | some i => minor x i 3

theorem vote_g (a b c : List UInt8) (va vb vc : Value) (w : World) (ha : Rd w va a) (hb : Rd w vb b) (hc : Rd w vc c) (la : a.length ≤ 35184372088832) (lb : b.length ≤ 35184372088832) (lc : c.length ≤ 35184372088832) :
    Calls Try.prog 34 #[va, vb, vc] w fun e w' => ∃ v mv, e = .returned (.tuple #[.agg #[.int .i64 (vGen (tri a b c)), v], mv, .int .i64 (vErr (tri a b c))]) ∧ Rd w' v (vBody (tri a b c)) ∧ Ri w' mv (vMin (tri a b c)) ∧ Fr F0 w w' :=
  vote_c a b c va vb vc w ha hb hc la lb lc

theorem rvote_g (a b c : List UInt8) (va vb vc : Value) (w : World) (ha : Rd w va a) (hb : Rd w vb b) (hc : Rd w vc c) (la : a.length ≤ 35184372088832) (lb : b.length ≤ 35184372088832) (lc : c.length ≤ 35184372088832) :
    Calls Try.prog 35 #[.agg #[va, vb, vc]] w fun e w' => ∃ v mv, e = .returned (.tuple #[.agg #[.int .i64 (vGen (tri a b c)), v], mv, .int .i64 (vErr (tri a b c))]) ∧ Rd w' v (vBody (tri a b c)) ∧ Ri w' mv (vMin (tri a b c)) ∧ Fr F0 w w' :=
  (rvote_c a b c va vb vc w ha hb hc la lb lc).mono fun _ _ h => vo_of h

theorem Rd.lenMax {w : World} {v : Value} {l : List UInt8} (h : Rd w v l) : l.length ≤ 9223372036854775807 := by
  obtain ⟨_, ao, c, h, h1, h2, _⟩ := h
  unfold maxLen at h2
  omega

set_option maxRecDepth 100000 in
set_option maxHeartbeats 3200000 in
theorem asks_c (s0 s1 s2 : Value) (a b c : List UInt8) (w : World) (ha : Rd w s0 a) (hb : Rd w s1 b) (hc : Rd w s2 c) :
    Calls Try.prog 7 #[.agg #[s0, s1, s2]] w (Yes w) := by
  obtain ⟨a0, c0, rfl, _⟩ := ha.form
  obtain ⟨a1, c1, rfl, _⟩ := hb.form
  obtain ⟨a2, c2, rfl, _⟩ := hc.form
  have la := ha.lenMax
  have lb := hb.lenMax
  have lc := hc.lenMax
  obtain ⟨na, HNA⟩ : ∃ n, Hid (a.length = n) := ⟨_, hid rfl⟩
  obtain ⟨nb, HNB⟩ : ∃ n, Hid (b.length = n) := ⟨_, hid rfl⟩
  obtain ⟨nt, HNT⟩ : ∃ n, Hid (c.length = n) := ⟨_, hid rfl⟩
  rw [HNA.out] at ha la ⊢
  rw [HNB.out] at hb lb ⊢
  rw [HNT.out] at hc lc ⊢
  have HA := hid ha
  have HB := hid hb
  have HC := hid hc
  clear ha hb hc
  have HS := hid (sum_c2 (.slice (some ⟨w.heap.size + 1, 0, none⟩) 2 2) na [(nb : Int), (nt : Int)] ((w.alloc (.cells #[.slice a0 na c0, .slice a1 nb c1, .slice a2 nt c2] 53)).alloc (.cells #[.int .i64 nb, .int .i64 nt] 3)) (by have := Ri.two (w.alloc (.cells #[.slice a0 na c0, .slice a1 nb c1, .slice a2 nt c2] 53)) nb nt 3; rw [heap_size_alloc'] at this; exact this) (by simp) (by simp) (by omega) (by omega) (by simp))
  by_cases h3 : 2000 < asum na [(nb : Int), (nt : Int)]
  · generalize asum na [(nb : Int), (nt : Int)] = S at *
    go_enter Try.func7, Try.ntmps7
    go_wp2_with fail
    refine HS.out.mono ?_
    rintro e w1 ⟨rfl, rfl⟩
    go_wp2_with fail
    refine (awake9_c _).mono ?_
    rintro e w1 ⟨rfl, f1⟩
    go_wp2_with fail
    go_ret
    exact ⟨rfl, F0.and (((Fr.refl _ _).alloc _).alloc _) f1⟩
  · obtain ⟨ka, kb, kt⟩ := asum3 na nb nt h3
    have LA : Hid (a.length ≤ 35184372088832) := hid (by rw [HNA.out]; omega)
    have LB : Hid (b.length ≤ 35184372088832) := hid (by rw [HNB.out]; omega)
    have LC : Hid (c.length ≤ 35184372088832) := hid (by rw [HNT.out]; omega)
    generalize asum na [(nb : Int), (nt : Int)] = S at *
    clear ka kb kt
    go_enter Try.func7, Try.ntmps7
    go_wp2_with fail
    refine HS.out.mono ?_
    rintro e w1 ⟨rfl, rfl⟩
    have hlb := ((Fr.refl F0 _).alloc (.cells #[.int .i64 nb, .int .i64 nt] 3)).heap (heap_alloc_last w (.cells #[.slice a0 na c0, .slice a1 nb c1, .slice a2 nt c2] 53)) (fun e => e)
    have F1 : Hid (Fr F0 w ((w.alloc (.cells #[.slice a0 na c0, .slice a1 nb c1, .slice a2 nt c2] 53)).alloc (.cells #[.int .i64 nb, .int .i64 nt] 3))) := hid (((Fr.refl _ _).alloc _).alloc _)
    generalize (w.alloc (.cells #[.slice a0 na c0, .slice a1 nb c1, .slice a2 nt c2] 53)).alloc (.cells #[.int .i64 nb, .int .i64 nt] 3) = w1 at *
    have c00 : w1.cell? ⟨w.heap.size, 0, none⟩ = some (.slice a0 na c0) := by rw [cell_at hlb]; rfl
    have c01 : w1.cell? ⟨w.heap.size, 1, none⟩ = some (.slice a1 nb c1) := by rw [cell_at hlb]; rfl
    have c02 : w1.cell? ⟨w.heap.size, 2, none⟩ = some (.slice a2 nt c2) := by rw [cell_at hlb]; rfl
    have HLB := hid hlb
    clear HS hlb
    go_wp2_with fail
    refine (vote_g a b c _ _ _ _ (HA.out.keep0 F1.out) (HB.out.keep0 F1.out) (HC.out.keep0 F1.out) LA.out LB.out LC.out).mono ?_
    rintro e w2 ⟨v2, m2, rfl, h2, i2, f2⟩
    obtain ⟨a3, c3, rfl, _⟩ := h2.form
    obtain ⟨a4, c4, rfl, _⟩ := i2.form
    have F2 := hid (F0.and F1.out f2)
    have H2 := hid h2
    have I2 := hid i2
    have hlb := f2.heap HLB.out (fun e => e)
    have c00 : w2.cell? ⟨w.heap.size, 0, none⟩ = some (.slice a0 na c0) := by rw [cell_at hlb]; rfl
    have c01 : w2.cell? ⟨w.heap.size, 1, none⟩ = some (.slice a1 nb c1) := by rw [cell_at hlb]; rfl
    have c02 : w2.cell? ⟨w.heap.size, 2, none⟩ = some (.slice a2 nt c2) := by rw [cell_at hlb]; rfl
    have hz0 : w.heap.size < w2.heap.size := lt_of_heap hlb
    clear h2 i2 f2 hlb HLB F1
    go_wp2_with fail
    refine (rvote_g a b c _ _ _ _ (HA.out.keep0 (F2.out.alloc _)) (HB.out.keep0 (F2.out.alloc _)) (HC.out.keep0 (F2.out.alloc _)) LA.out LB.out LC.out).mono ?_
    rintro e w3 ⟨v3, m3, rfl, h3, i3, f3⟩
    obtain ⟨a5, c5, rfl, _⟩ := h3.form
    obtain ⟨a6, c6, rfl, _⟩ := i3.form
    have hb2 := f3.heap (heap_alloc_last w2 _) (fun e => e)
    have f23 := F0.and ((Fr.refl F0 w2).alloc _) f3
    have F3 := hid (F0.and F2.out f23)
    have q0 : w3.cell? ⟨w2.heap.size, 0, none⟩ = some (.int .i64 (vGen (tri a b c))) := by rw [cell_at hb2]; rfl
    have q1 : w3.cell? ⟨w2.heap.size, 1, none⟩ = some (.slice a3 (vBody (tri a b c)).length c3) := by rw [cell_at hb2]; rfl
    have hz2 : w2.heap.size < w3.heap.size := lt_of_heap hb2
    have H2 := hid ((H2.out.keep0 f23).keep0 ((Fr.refl F0 w3).alloc (.cells #[.int .i64 (vGen (tri a b c)), .slice a5 (vBody (tri a b c)).length c5] 59)))
    have H3 := hid (h3.keep0 ((Fr.refl F0 w3).alloc (.cells #[.int .i64 (vGen (tri a b c)), .slice a5 (vBody (tri a b c)).length c5] 59)))
    have I2 := hid ((I2.out.keep0 f23).keep0 ((Fr.refl F0 w3).alloc (.cells #[.int .i64 (vGen (tri a b c)), .slice a5 (vBody (tri a b c)).length c5] 59)))
    have I3 := hid (i3.keep0 ((Fr.refl F0 w3).alloc (.cells #[.int .i64 (vGen (tri a b c)), .slice a5 (vBody (tri a b c)).length c5] 59)))
    have F4 := hid (F3.out.alloc (.cells #[.int .i64 (vGen (tri a b c)), .slice a5 (vBody (tri a b c)).length c5] 59))
    clear h3 i3 f3 f23 hb2 c00 c01 c02 hz0
    generalize vGen (tri a b c) = vg at *
    generalize vErr (tri a b c) = ve at *
    generalize vBody (tri a b c) = vb at *
    generalize vMin (tri a b c) = vm at *
    go_wp2_with (first | (refine wpList_str (.tmp 46) rfl _ vb rfl H2.out rfl ?_) | (refine wpList_str (.tmp 49) rfl _ vb rfl H3.out rfl ?_))
    refine (ints_c _ _ vm vm _ I2.out I3.out).mono ?_
    rintro e w5 ⟨rfl, f5⟩
    have hs : (vm == vm) = true := by simp
    rw [hs]
    have F5 := hid (F0.and F4.out f5)
    clear f5 hs
    go_wp2_with fail
    refine (awake9_c _).mono ?_
    rintro e w6 ⟨rfl, f6⟩
    have F6 := hid (F0.and F5.out f6)
    clear f6
    go_wp2_with fail
    go_ret
    exact ⟨rfl, F6.out⟩

end Go.Proofs.Ytfalaopljodmnaa
