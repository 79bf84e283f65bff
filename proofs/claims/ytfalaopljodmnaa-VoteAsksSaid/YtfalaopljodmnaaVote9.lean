/- linnetlaw9.VoteOne: the walk. -/
import Derived.Test.YtfalaopljodmnaaVote8
namespace Go.Proofs.Ytfalaopljodmnaa
open Go.RowKit

theorem one0 {o y : List UInt8} {p : Int × List UInt8} (h : decP y = some p) : ∃ j, winP (tri o y y) = some j ∧ decP (tri o y y j) = some p ∧ minor (tri o y y) j 3 = if o = y then [] else [0] := by
  obtain ⟨j, h1, h2⟩ := win_baa (B := o) h
  refine ⟨j, h1, by rw [h2]; exact h, ?_⟩
  have e0 : tri o y y 0 = o := rfl
  have e1 : tri o y y 1 = y := rfl
  have e2 : tri o y y 2 = y := rfl
  rw [minor, minor, minor, minor, h2, e0, e1, e2]
  by_cases e : o = y <;> simp [e]

theorem one1 {o y : List UInt8} {p : Int × List UInt8} (h : decP y = some p) : ∃ j, winP (tri y o y) = some j ∧ decP (tri y o y j) = some p ∧ minor (tri y o y) j 3 = if o = y then [] else [1] := by
  refine ⟨0, win_aba h, h, ?_⟩
  have e0 : tri y o y 0 = y := rfl
  have e1 : tri y o y 1 = o := rfl
  have e2 : tri y o y 2 = y := rfl
  rw [minor, minor, minor, minor, e0, e1, e2]
  by_cases e : o = y <;> simp [e]

theorem one2 {o y : List UInt8} {p : Int × List UInt8} (h : decP y = some p) : ∃ j, winP (tri y y o) = some j ∧ decP (tri y y o j) = some p ∧ minor (tri y y o) j 3 = if o = y then [] else [2] := by
  refine ⟨0, win_aab h, h, ?_⟩
  have e0 : tri y y o 0 = y := rfl
  have e1 : tri y y o 1 = y := rfl
  have e2 : tri y y o 2 = o := rfl
  rw [minor, minor, minor, minor, e0, e1, e2]
  by_cases e : o = y <;> simp [e]

set_option maxRecDepth 100000 in
set_option maxHeartbeats 3200000 in
theorem one_c (gen : Int) (v : Value) (l : List UInt8) (at_ : Int) (vo : Value) (o : List UInt8) (w : World) (hr : Rd w v l) (hb : Rd w vo o) :
    Calls Try.prog 9 #[.int .i64 gen, v, .int .i64 at_, vo] w (Yes w) := by
  obtain ⟨a0, c0, rfl, _⟩ := hr.form
  obtain ⟨a1, c1, rfl, _⟩ := hb.form
  obtain ⟨n, HN⟩ : ∃ n, Hid (l.length = n) := ⟨_, hid rfl⟩
  obtain ⟨m, HM⟩ : ∃ m, Hid (o.length = m) := ⟨_, hid rfl⟩
  rw [HN.out] at hr ⊢
  rw [HM.out] at hb ⊢
  have HR := hid hr
  have HB := hid hb
  clear hr hb
  by_cases h1 : gen < 1
  · skip
    go_enter Try.func9, Try.ntmps9
    go_wp2_with fail
    refine (awake9_c _).mono ?_
    rintro e w1 ⟨rfl, f1⟩
    go_wp2_with fail
    go_ret
    exact ⟨rfl, f1⟩
  · skip
    by_cases h2 : 2147483647 < gen
    · skip
      go_enter Try.func9, Try.ntmps9
      go_wp2_with fail
      refine (awake9_c _).mono ?_
      rintro e w1 ⟨rfl, f1⟩
      go_wp2_with fail
      go_ret
      exact ⟨rfl, f1⟩
    · skip
      by_cases h3 : 1000 < n
      · skip
        have h3' : 1000 < (n : Int) := by omega
        go_enter Try.func9, Try.ntmps9
        go_wp2_with fail
        refine (awake9_c _).mono ?_
        rintro e w1 ⟨rfl, f1⟩
        go_wp2_with fail
        go_ret
        exact ⟨rfl, f1⟩
      · skip
        have h3' : ¬ 1000 < (n : Int) := by omega
        by_cases h4 : 2000 < m
        · skip
          have h4' : 2000 < (m : Int) := by omega
          go_enter Try.func9, Try.ntmps9
          go_wp2_with fail
          refine (awake9_c _).mono ?_
          rintro e w1 ⟨rfl, f1⟩
          go_wp2_with fail
          go_ret
          exact ⟨rfl, f1⟩
        · skip
          have h4' : ¬ 2000 < (m : Int) := by omega
          have HLN : Hid (l.length ≤ 35184372088832) := hid (by rw [HN.out]; omega)
          have HLM : Hid (o.length ≤ 35184372088832) := hid (by rw [HM.out]; omega)
          obtain ⟨y, hy⟩ := encP_some (g := gen) (b := l) (by omega) (by omega) (by rw [HN.out]; omega)
          have HY := hid hy
          have HD := hid (decP_enc hy)
          have HYL : Hid (y.length ≤ 35184372088832) := hid (by have := encP_len hy; rw [HN.out] at this; omega)
          clear hy h3 h4
          go_enter Try.func9, Try.ntmps9
          go_wp2_with fail
          refine (venc_some gen _ l y _ HR.out HLN.out HY.out).mono ?_
          rintro e w2 ⟨r2, rfl, o2, f2⟩
          obtain ⟨a2, c2, rfl, _⟩ := o2.form
          have F2 := hid f2
          have O2 := hid o2
          clear o2 f2
          go_wp2_with fail
          refine (round_c at_ 3 _ (by omega) (by omega)).mono ?_
          rintro e w3 ⟨rfl, rfl⟩
          have hk0 : 0 ≤ at_ % 3 := Int.emod_nonneg _ (by omega)
          have hk1 : at_ % 3 < 3 := Int.emod_lt_of_pos _ (by omega)
          generalize at_ % 3 = k at *
          rcases (show k = 0 ∨ k = 1 ∨ k = 2 by omega) with rfl | rfl | rfl
          · clear hk0 hk1
            obtain ⟨j, hj1, hj2, hj3⟩ := one0 (o := o) HD.out
            have HJ1 := hid hj1
            have HJ2 := hid hj2
            by_cases he : o = y
            · have heb := eqB he
              have HJ3 : Hid (minor (tri o y y) j 3 = []) := hid (by rw [hj3, if_pos he])
              clear hj1 hj2 hj3 he
              go_wp2_with fail
              have Y1 := hid (O2.out.keep0 ((Fr.refl F0 w2).alloc (.cells #[.slice a1 m c1, .slice a2 y.length c2, .slice a2 y.length c2] 53)))
              have B1 := hid (HB.out.keep0 (F2.out.alloc (.cells #[.slice a1 m c1, .slice a2 y.length c2, .slice a2 y.length c2] 53)))
              refine (vote_some o y y _ _ _ j (gen, l) [] _ B1.out Y1.out Y1.out HLM.out HYL.out HYL.out HJ1.out HJ2.out HJ3.out).mono ?_
              rintro e w4 ⟨v4, m4, rfl, h4, i4, f4⟩
              obtain ⟨a4, c4, rfl, _⟩ := h4.form
              obtain ⟨a5, c5, rfl, _⟩ := i4.form
              dsimp only at h4 ⊢
              have F4 := hid (F0.and (F2.out.alloc _) f4)
              have F4B := hid f4
              have H4 := hid h4
              clear h4 i4 f4
              go_wp2_with fail
              refine (same_c gen gen _ _ l l _ (H4.out.keep0 ((Fr.refl _ _).alloc _)) (HR.out.keep0 (F4.out.alloc _))).mono ?_
              rintro e w5 ⟨rfl, f5⟩
              have hs : (decide (gen = gen) && (l == l)) = true := by simp
              rw [hs]
              have F5 := hid (F0.and (F4.out.alloc _) f5)
              have O5 := hid (HB.out.keep0 F5.out)
              have Y5 := hid ((((O2.out.keep0 ((Fr.refl _ _).alloc _)).keep0 F4B.out).keep0 ((Fr.refl _ _).alloc _)).keep0 f5)
              clear f5 hs
              go_wp2_with (first | (refine wpList_str (.tmp 72) rfl _ o rfl O5.out rfl ?_) | (refine wpList_str (.tmp 74) rfl _ y rfl Y5.out rfl ?_))
              refine (awake9_c _).mono ?_
              rintro e w7 ⟨rfl, f7⟩
              have F7 := hid (F0.and F5.out f7)
              clear f7
              go_wp2_with fail
              go_ret
              exact ⟨rfl, F7.out⟩
            · have heb := neB he
              have HJ3 : Hid (minor (tri o y y) j 3 = [0]) := hid (by rw [hj3, if_neg he])
              clear hj1 hj2 hj3 he
              go_wp2_with fail
              have Y1 := hid (O2.out.keep0 ((Fr.refl F0 w2).alloc (.cells #[.slice a1 m c1, .slice a2 y.length c2, .slice a2 y.length c2] 53)))
              have B1 := hid (HB.out.keep0 (F2.out.alloc (.cells #[.slice a1 m c1, .slice a2 y.length c2, .slice a2 y.length c2] 53)))
              refine (vote_some o y y _ _ _ j (gen, l) [0] _ B1.out Y1.out Y1.out HLM.out HYL.out HYL.out HJ1.out HJ2.out HJ3.out).mono ?_
              rintro e w4 ⟨v4, m4, rfl, h4, i4, f4⟩
              obtain ⟨a4, c4, rfl, _⟩ := h4.form
              obtain ⟨mb, mo, c5, rfl, _, hcell⟩ := i4.open (by simp)
              have hc0 := hcell 0 0 rfl
              rw [Nat.add_zero] at hc0
              have HC0 := hid hc0
              dsimp only at h4 ⊢
              have F4 := hid (F0.and (F2.out.alloc _) f4)
              have F4B := hid f4
              have H4 := hid h4
              clear h4 i4 f4 hcell hc0
              go_wp2_with fail
              refine (same_c gen gen _ _ l l _ (H4.out.keep0 ((Fr.refl _ _).alloc _)) (HR.out.keep0 (F4.out.alloc _))).mono ?_
              rintro e w5 ⟨rfl, f5⟩
              have hs : (decide (gen = gen) && (l == l)) = true := by simp
              rw [hs]
              have F5 := hid (F0.and (F4.out.alloc _) f5)
              have O5 := hid (HB.out.keep0 F5.out)
              have Y5 := hid ((((O2.out.keep0 ((Fr.refl _ _).alloc _)).keep0 F4B.out).keep0 ((Fr.refl _ _).alloc _)).keep0 f5)
              have hc5 : w5.cell? ⟨mb, mo, none⟩ = some (.int .i64 0) := by rw [(F0.and ((Fr.refl F0 w4).alloc _) f5).cell (block_lt_of_cell HC0.out) (fun e => e)]; exact HC0.out
              clear f5 hs
              go_wp2_with (first | (refine wpList_str (.tmp 72) rfl _ o rfl O5.out rfl ?_) | (refine wpList_str (.tmp 74) rfl _ y rfl Y5.out rfl ?_))
              refine (awake9_c _).mono ?_
              rintro e w7 ⟨rfl, f7⟩
              have F7 := hid (F0.and F5.out f7)
              clear f7
              go_wp2_with fail
              go_ret
              exact ⟨rfl, F7.out⟩
          · clear hk0 hk1
            obtain ⟨j, hj1, hj2, hj3⟩ := one1 (o := o) HD.out
            have HJ1 := hid hj1
            have HJ2 := hid hj2
            by_cases he : o = y
            · have heb := eqB he
              have HJ3 : Hid (minor (tri y o y) j 3 = []) := hid (by rw [hj3, if_pos he])
              clear hj1 hj2 hj3 he
              go_wp2_with fail
              have Y1 := hid (O2.out.keep0 ((Fr.refl F0 w2).alloc (.cells #[.slice a2 y.length c2, .slice a1 m c1, .slice a2 y.length c2] 53)))
              have B1 := hid (HB.out.keep0 (F2.out.alloc (.cells #[.slice a2 y.length c2, .slice a1 m c1, .slice a2 y.length c2] 53)))
              refine (vote_some y o y _ _ _ j (gen, l) [] _ Y1.out B1.out Y1.out HYL.out HLM.out HYL.out HJ1.out HJ2.out HJ3.out).mono ?_
              rintro e w4 ⟨v4, m4, rfl, h4, i4, f4⟩
              obtain ⟨a4, c4, rfl, _⟩ := h4.form
              obtain ⟨a5, c5, rfl, _⟩ := i4.form
              dsimp only at h4 ⊢
              have F4 := hid (F0.and (F2.out.alloc _) f4)
              have F4B := hid f4
              have H4 := hid h4
              clear h4 i4 f4
              go_wp2_with fail
              refine (same_c gen gen _ _ l l _ (H4.out.keep0 ((Fr.refl _ _).alloc _)) (HR.out.keep0 (F4.out.alloc _))).mono ?_
              rintro e w5 ⟨rfl, f5⟩
              have hs : (decide (gen = gen) && (l == l)) = true := by simp
              rw [hs]
              have F5 := hid (F0.and (F4.out.alloc _) f5)
              have O5 := hid (HB.out.keep0 F5.out)
              have Y5 := hid ((((O2.out.keep0 ((Fr.refl _ _).alloc _)).keep0 F4B.out).keep0 ((Fr.refl _ _).alloc _)).keep0 f5)
              clear f5 hs
              go_wp2_with (first | (refine wpList_str (.tmp 72) rfl _ o rfl O5.out rfl ?_) | (refine wpList_str (.tmp 74) rfl _ y rfl Y5.out rfl ?_))
              refine (awake9_c _).mono ?_
              rintro e w7 ⟨rfl, f7⟩
              have F7 := hid (F0.and F5.out f7)
              clear f7
              go_wp2_with fail
              go_ret
              exact ⟨rfl, F7.out⟩
            · have heb := neB he
              have HJ3 : Hid (minor (tri y o y) j 3 = [1]) := hid (by rw [hj3, if_neg he])
              clear hj1 hj2 hj3 he
              go_wp2_with fail
              have Y1 := hid (O2.out.keep0 ((Fr.refl F0 w2).alloc (.cells #[.slice a2 y.length c2, .slice a1 m c1, .slice a2 y.length c2] 53)))
              have B1 := hid (HB.out.keep0 (F2.out.alloc (.cells #[.slice a2 y.length c2, .slice a1 m c1, .slice a2 y.length c2] 53)))
              refine (vote_some y o y _ _ _ j (gen, l) [1] _ Y1.out B1.out Y1.out HYL.out HLM.out HYL.out HJ1.out HJ2.out HJ3.out).mono ?_
              rintro e w4 ⟨v4, m4, rfl, h4, i4, f4⟩
              obtain ⟨a4, c4, rfl, _⟩ := h4.form
              obtain ⟨mb, mo, c5, rfl, _, hcell⟩ := i4.open (by simp)
              have hc0 := hcell 0 1 rfl
              rw [Nat.add_zero] at hc0
              have HC0 := hid hc0
              dsimp only at h4 ⊢
              have F4 := hid (F0.and (F2.out.alloc _) f4)
              have F4B := hid f4
              have H4 := hid h4
              clear h4 i4 f4 hcell hc0
              go_wp2_with fail
              refine (same_c gen gen _ _ l l _ (H4.out.keep0 ((Fr.refl _ _).alloc _)) (HR.out.keep0 (F4.out.alloc _))).mono ?_
              rintro e w5 ⟨rfl, f5⟩
              have hs : (decide (gen = gen) && (l == l)) = true := by simp
              rw [hs]
              have F5 := hid (F0.and (F4.out.alloc _) f5)
              have O5 := hid (HB.out.keep0 F5.out)
              have Y5 := hid ((((O2.out.keep0 ((Fr.refl _ _).alloc _)).keep0 F4B.out).keep0 ((Fr.refl _ _).alloc _)).keep0 f5)
              have hc5 : w5.cell? ⟨mb, mo, none⟩ = some (.int .i64 1) := by rw [(F0.and ((Fr.refl F0 w4).alloc _) f5).cell (block_lt_of_cell HC0.out) (fun e => e)]; exact HC0.out
              clear f5 hs
              go_wp2_with (first | (refine wpList_str (.tmp 72) rfl _ o rfl O5.out rfl ?_) | (refine wpList_str (.tmp 74) rfl _ y rfl Y5.out rfl ?_))
              refine (awake9_c _).mono ?_
              rintro e w7 ⟨rfl, f7⟩
              have F7 := hid (F0.and F5.out f7)
              clear f7
              go_wp2_with fail
              go_ret
              exact ⟨rfl, F7.out⟩
          · clear hk0 hk1
            obtain ⟨j, hj1, hj2, hj3⟩ := one2 (o := o) HD.out
            have HJ1 := hid hj1
            have HJ2 := hid hj2
            by_cases he : o = y
            · have heb := eqB he
              have HJ3 : Hid (minor (tri y y o) j 3 = []) := hid (by rw [hj3, if_pos he])
              clear hj1 hj2 hj3 he
              go_wp2_with fail
              have Y1 := hid (O2.out.keep0 ((Fr.refl F0 w2).alloc (.cells #[.slice a2 y.length c2, .slice a2 y.length c2, .slice a1 m c1] 53)))
              have B1 := hid (HB.out.keep0 (F2.out.alloc (.cells #[.slice a2 y.length c2, .slice a2 y.length c2, .slice a1 m c1] 53)))
              refine (vote_some y y o _ _ _ j (gen, l) [] _ Y1.out Y1.out B1.out HYL.out HYL.out HLM.out HJ1.out HJ2.out HJ3.out).mono ?_
              rintro e w4 ⟨v4, m4, rfl, h4, i4, f4⟩
              obtain ⟨a4, c4, rfl, _⟩ := h4.form
              obtain ⟨a5, c5, rfl, _⟩ := i4.form
              dsimp only at h4 ⊢
              have F4 := hid (F0.and (F2.out.alloc _) f4)
              have F4B := hid f4
              have H4 := hid h4
              clear h4 i4 f4
              go_wp2_with fail
              refine (same_c gen gen _ _ l l _ (H4.out.keep0 ((Fr.refl _ _).alloc _)) (HR.out.keep0 (F4.out.alloc _))).mono ?_
              rintro e w5 ⟨rfl, f5⟩
              have hs : (decide (gen = gen) && (l == l)) = true := by simp
              rw [hs]
              have F5 := hid (F0.and (F4.out.alloc _) f5)
              have O5 := hid (HB.out.keep0 F5.out)
              have Y5 := hid ((((O2.out.keep0 ((Fr.refl _ _).alloc _)).keep0 F4B.out).keep0 ((Fr.refl _ _).alloc _)).keep0 f5)
              clear f5 hs
              go_wp2_with (first | (refine wpList_str (.tmp 72) rfl _ o rfl O5.out rfl ?_) | (refine wpList_str (.tmp 74) rfl _ y rfl Y5.out rfl ?_))
              refine (awake9_c _).mono ?_
              rintro e w7 ⟨rfl, f7⟩
              have F7 := hid (F0.and F5.out f7)
              clear f7
              go_wp2_with fail
              go_ret
              exact ⟨rfl, F7.out⟩
            · have heb := neB he
              have HJ3 : Hid (minor (tri y y o) j 3 = [2]) := hid (by rw [hj3, if_neg he])
              clear hj1 hj2 hj3 he
              go_wp2_with fail
              have Y1 := hid (O2.out.keep0 ((Fr.refl F0 w2).alloc (.cells #[.slice a2 y.length c2, .slice a2 y.length c2, .slice a1 m c1] 53)))
              have B1 := hid (HB.out.keep0 (F2.out.alloc (.cells #[.slice a2 y.length c2, .slice a2 y.length c2, .slice a1 m c1] 53)))
              refine (vote_some y y o _ _ _ j (gen, l) [2] _ Y1.out Y1.out B1.out HYL.out HYL.out HLM.out HJ1.out HJ2.out HJ3.out).mono ?_
              rintro e w4 ⟨v4, m4, rfl, h4, i4, f4⟩
              obtain ⟨a4, c4, rfl, _⟩ := h4.form
              obtain ⟨mb, mo, c5, rfl, _, hcell⟩ := i4.open (by simp)
              have hc0 := hcell 0 2 rfl
              rw [Nat.add_zero] at hc0
              have HC0 := hid hc0
              dsimp only at h4 ⊢
              have F4 := hid (F0.and (F2.out.alloc _) f4)
              have F4B := hid f4
              have H4 := hid h4
              clear h4 i4 f4 hcell hc0
              go_wp2_with fail
              refine (same_c gen gen _ _ l l _ (H4.out.keep0 ((Fr.refl _ _).alloc _)) (HR.out.keep0 (F4.out.alloc _))).mono ?_
              rintro e w5 ⟨rfl, f5⟩
              have hs : (decide (gen = gen) && (l == l)) = true := by simp
              rw [hs]
              have F5 := hid (F0.and (F4.out.alloc _) f5)
              have O5 := hid (HB.out.keep0 F5.out)
              have Y5 := hid ((((O2.out.keep0 ((Fr.refl _ _).alloc _)).keep0 F4B.out).keep0 ((Fr.refl _ _).alloc _)).keep0 f5)
              have hc5 : w5.cell? ⟨mb, mo, none⟩ = some (.int .i64 2) := by rw [(F0.and ((Fr.refl F0 w4).alloc _) f5).cell (block_lt_of_cell HC0.out) (fun e => e)]; exact HC0.out
              clear f5 hs
              go_wp2_with (first | (refine wpList_str (.tmp 72) rfl _ o rfl O5.out rfl ?_) | (refine wpList_str (.tmp 74) rfl _ y rfl Y5.out rfl ?_))
              refine (awake9_c _).mono ?_
              rintro e w7 ⟨rfl, f7⟩
              have F7 := hid (F0.and F5.out f7)
              clear f7
              go_wp2_with fail
              go_ret
              exact ⟨rfl, F7.out⟩

end Go.Proofs.Ytfalaopljodmnaa
