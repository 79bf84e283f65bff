/- linnetlaw9.VoteSteps: the walk. -/
import Derived.Test.YtfalaopljodmnaaVote9
namespace Go.Proofs.Ytfalaopljodmnaa
open Go.RowKit

theorem asum3 (a b c : Nat) (h : ¬ 2000 < asum a [(b : Int), (c : Int)]) : a ≤ 2000 ∧ b ≤ 2000 ∧ c ≤ 2000 := by
  unfold asum at h
  split at h
  · omega
  · unfold asum at h
    split at h
    · omega
    · unfold asum at h; omega

theorem steps1 {x y t : List UInt8} {g : Int} {a b : List UInt8} (dx : decP x = some (g, a)) (dy : decP y = some (g + 1, b)) (dt : decP t = none) : winP (tri y t x) = some 0 := by
  have h1 : ¬ y = t := fun e => by rw [e, dt] at dy; cases dy
  have h2 : ¬ y = x := fun e => by rw [e, dx] at dy; injection dy with dy; injection dy with dy; omega
  have h3 : ¬ t = x := fun e => by rw [e, dx] at dt; cases dt
  have h1' : ¬ t = y := fun e => h1 e.symm
  have h2' : ¬ x = y := fun e => h2 e.symm
  have h3' : ¬ x = t := fun e => h3 e.symm
  have h4 : ¬ g + 1 < g := by omega
  simp [winP, bv, cntN, tri, dx, dy, dt, h1, h2, h2', h3', h4, pgGen]

theorem Ri.two (w : World) (u v : Int) (e : Nat) : Ri (w.alloc (.cells #[.int .i64 u, .int .i64 v] e)) (.slice (some ⟨w.heap.size, 0, none⟩) 2 2) [u, v] := by
  refine ⟨rfl, _, 2, rfl, Nat.le_refl _, by simp [maxLen], (fun h => by cases h), fun _ => ⟨w.heap.size, 0, rfl, by simp, fun j hj => ?_⟩⟩
  rw [cell_at (heap_alloc_last _ _)]
  match j, hj with
  | 0, _ => rfl
  | 1, _ => rfl
  | j + 2, hj => exact absurd (show j + 2 < 2 by simpa using hj) (by omega)

/-- The copies, of which the first i are laid. -/
def stp (z0 z1 z2 : Value) (i : Nat) : Array Value := #[if 0 < i then z0 else .slice none 0 0, if 1 < i then z1 else .slice none 0 0, if 2 < i then z2 else .slice none 0 0]

set_option maxRecDepth 100000 in
set_option maxHeartbeats 6400000 in
theorem steps_c (gen : Int) (va : Value) (a : List UInt8) (vb : Value) (b : List UInt8) (at_ : Int) (vt : Value) (t : List UInt8) (w : World) (ha : Rd w va a) (la : a.length ≤ 140737488351232) (hb : Rd w vb b) (lb : b.length ≤ 140737488351232) (ht : Rd w vt t) (lt : t.length ≤ 140737488351232) :
    Calls Try.prog 10 #[.int .i64 gen, va, vb, .int .i64 at_, vt] w (Yes w) := by
  obtain ⟨a0, c0, rfl, _⟩ := ha.form
  obtain ⟨a1, c1, rfl, _⟩ := hb.form
  obtain ⟨a2, c2, rfl, _⟩ := ht.form
  obtain ⟨na, HNA⟩ : ∃ n, Hid (a.length = n) := ⟨_, hid rfl⟩
  obtain ⟨nb, HNB⟩ : ∃ n, Hid (b.length = n) := ⟨_, hid rfl⟩
  obtain ⟨nt, HNT⟩ : ∃ n, Hid (t.length = n) := ⟨_, hid rfl⟩
  rw [HNA.out] at ha la ⊢
  rw [HNB.out] at hb lb ⊢
  rw [HNT.out] at ht lt ⊢
  have HA := hid ha
  have HB := hid hb
  have HT := hid ht
  clear ha hb ht
  by_cases h1 : gen < 1
  · skip
    go_enter Try.func10, Try.ntmps10
    go_wp2_with fail
    refine (awake9_c _).mono ?_
    rintro e w1 ⟨rfl, f1⟩
    go_wp2_with fail
    go_ret
    exact ⟨rfl, f1⟩
  · by_cases h2 : 2147483647 ≤ gen
    · skip
      go_enter Try.func10, Try.ntmps10
      go_wp2_with fail
      refine (awake9_c _).mono ?_
      rintro e w1 ⟨rfl, f1⟩
      go_wp2_with fail
      go_ret
      exact ⟨rfl, f1⟩
    · by_cases h3 : 2000 < asum na [(nb : Int), (nt : Int)]
      · have HS := hid (sum_c (.slice (some ⟨w.heap.size, 0, none⟩) 2 2) na [(nb : Int), (nt : Int)] (w.alloc (.cells #[.int .i64 nb, .int .i64 nt] 3)) (Ri.two w nb nt 3) (by simp) (by simp) (by omega) (by omega) (by simp))
        generalize asum na [(nb : Int), (nt : Int)] = S at *
        go_enter Try.func10, Try.ntmps10
        go_wp2_with fail
        refine HS.out.mono ?_
        rintro e w1 ⟨rfl, rfl⟩
        go_wp2_with fail
        refine (awake9_c _).mono ?_
        rintro e w1 ⟨rfl, f1⟩
        go_wp2_with fail
        go_ret
        exact ⟨rfl, F0.and ((Fr.refl _ _).alloc _) f1⟩
      · have HS := hid (sum_c (.slice (some ⟨w.heap.size, 0, none⟩) 2 2) na [(nb : Int), (nt : Int)] (w.alloc (.cells #[.int .i64 nb, .int .i64 nt] 3)) (Ri.two w nb nt 3) (by simp) (by simp) (by omega) (by omega) (by simp))
        obtain ⟨ka, kb, kt⟩ := asum3 na nb nt h3
        generalize asum na [(nb : Int), (nt : Int)] = S at *
        obtain ⟨x, hx⟩ := encP_some (g := gen) (b := a) (by omega) (by omega) (by rw [HNA.out]; omega)
        obtain ⟨y, hy⟩ := encP_some (g := gen + 1) (b := b) (by omega) (by omega) (by rw [HNB.out]; omega)
        have HX := hid hx
        have HY := hid hy
        have DX := hid (decP_enc hx)
        have DY := hid (decP_enc hy)
        have LX : Hid (x.length ≤ 35184372088832) := hid (by have := encP_len hx; rw [HNA.out] at this; omega)
        have LY : Hid (y.length ≤ 35184372088832) := hid (by have := encP_len hy; rw [HNB.out] at this; omega)
        have LT : Hid (t.length ≤ 35184372088832) := hid (by rw [HNT.out]; omega)
        have LA : Hid (a.length ≤ 35184372088832) := hid (by rw [HNA.out]; omega)
        have LB : Hid (b.length ≤ 35184372088832) := hid (by rw [HNB.out]; omega)
        clear hx hy ka kb kt la lb lt
        cases hd : decP t with
        | some p =>
          have DT := hid hd
          clear hd
          go_enter Try.func10, Try.ntmps10
          go_wp2_with fail
          refine HS.out.mono ?_
          rintro e w1 ⟨rfl, rfl⟩
          have F1 : Hid (Fr F0 w (w.alloc (.cells #[.int .i64 nb, .int .i64 nt] 3))) := hid ((Fr.refl _ _).alloc _)
          generalize w.alloc (.cells #[.int .i64 nb, .int .i64 nt] 3) = w1 at *
          clear HS
          go_wp2_with fail
          refine (venc_some gen _ a x _ (HA.out.keep0 F1.out) LA.out HX.out).mono ?_
          rintro e w2 ⟨r2, rfl, o2, f2⟩
          obtain ⟨a3, c3, rfl, _⟩ := o2.form
          have F2 := hid (F0.and F1.out f2)
          have X2 := hid o2
          clear o2 f2 F1
          go_wp2_with fail
          refine (venc_some (gen + 1) _ b y _ (HB.out.keep0 F2.out) LB.out HY.out).mono ?_
          rintro e w3 ⟨r3, rfl, o3, f3⟩
          obtain ⟨a4, c4, rfl, _⟩ := o3.form
          have F3 := hid (F0.and F2.out f3)
          have X3 := hid (X2.out.keep0 f3)
          have Y3 := hid o3
          clear o3 f3 F2 X2
          go_wp2_with fail
          refine (vdec_some _ t p _ (HT.out.keep0 F3.out) LT.out DT.out).mono ?_
          rintro e w4 ⟨u4, rfl, o4, f4, _⟩
          obtain ⟨a5, c5, rfl, _⟩ := o4.form
          have F4 := hid (F0.and F3.out f4)
          clear o4 f4
          go_wp2_with fail
          refine (awake9_c _).mono ?_
          rintro e w5 ⟨rfl, f5⟩
          have F5 := hid (F0.and (F4.out.alloc _) f5)
          clear f5
          go_wp2_with fail
          go_ret
          exact ⟨rfl, F5.out⟩
        | none =>
          have DT := hid hd
          clear hd
          go_enter Try.func10, Try.ntmps10
          go_wp2_with fail
          refine HS.out.mono ?_
          rintro e w1 ⟨rfl, rfl⟩
          have F1 : Hid (Fr F0 w (w.alloc (.cells #[.int .i64 nb, .int .i64 nt] 3))) := hid ((Fr.refl _ _).alloc _)
          generalize w.alloc (.cells #[.int .i64 nb, .int .i64 nt] 3) = w1 at *
          clear HS
          go_wp2_with fail
          refine (venc_some gen _ a x _ (HA.out.keep0 F1.out) LA.out HX.out).mono ?_
          rintro e w2 ⟨r2, rfl, o2, f2⟩
          obtain ⟨a3, c3, rfl, _⟩ := o2.form
          have F2 := hid (F0.and F1.out f2)
          have X2 := hid o2
          clear o2 f2 F1
          go_wp2_with fail
          refine (venc_some (gen + 1) _ b y _ (HB.out.keep0 F2.out) LB.out HY.out).mono ?_
          rintro e w3 ⟨r3, rfl, o3, f3⟩
          obtain ⟨a4, c4, rfl, _⟩ := o3.form
          have F3 := hid (F0.and F2.out f3)
          have X3 := hid (X2.out.keep0 f3)
          have Y3 := hid o3
          clear o3 f3 F2 X2
          go_wp2_with fail
          refine (vdec_none _ t _ (HT.out.keep0 F3.out) LT.out DT.out).mono ?_
          rintro e w4 ⟨u4, rfl, o4, f4⟩
          obtain ⟨a5, c5, rfl, _⟩ := o4.form
          have F4 := hid (F0.and F3.out f4)
          have X4 := hid (X3.out.keep0 f4)
          have Y4 := hid (Y3.out.keep0 f4)
          clear o4 f4 F3 X3 Y3
          go_wp2_with fail
          refine (round_c at_ 3 _ (by omega) (by omega)).mono ?_
          rintro e w5 ⟨rfl, rfl⟩
          have hk0 : 0 ≤ at_ % 3 := Int.emod_nonneg _ (by omega)
          have hk1 : at_ % 3 < 3 := Int.emod_lt_of_pos _ (by omega)
          have F5 := hid (F4.out.alloc (.cells #[.int .i64 0, .slice a5 ([] : List UInt8).length c5] 56))
          have X5 := hid (X4.out.keep0 ((Fr.refl F0 w4).alloc (.cells #[.int .i64 0, .slice a5 ([] : List UInt8).length c5] 56)))
          have Y5 := hid (Y4.out.keep0 ((Fr.refl F0 w4).alloc (.cells #[.int .i64 0, .slice a5 ([] : List UInt8).length c5] 56)))
          clear F4 X4 Y4
          generalize w4.alloc (.cells #[.int .i64 0, .slice a5 ([] : List UInt8).length c5] 56) = W0 at *
          generalize at_ % 3 = k at *
          have HT5 := hid (HT.out.keep0 F5.out)
          rcases (show k = 0 ∨ k = 1 ∨ k = 2 by omega) with rfl | rfl | rfl
          · clear hk0 hk1
            have HL0 : Hid ((W0.alloc (.cells #[.slice none 0 0, .slice none 0 0, .slice none 0 0] 53)).heap[W0.heap.size]? = some (.cells (stp (.slice a2 nt c2) (.slice a3 x.length c3) (.slice a3 x.length c3) 0) 53 (0, 0))) := hid (heap_alloc_last _ _)
            go_wp2_with fail
            go_loopw [19] (fun v wr => ∃ i : Nat, i ≤ 3 ∧ v = .int .i64 i ∧ Hid (wr.heap[W0.heap.size]? = some (.cells (stp (.slice a2 nt c2) (.slice a3 x.length c3) (.slice a3 x.length c3) i) 53 (0, 0)) ∧ Fr F0 W0 wr)) (fun v _ => 3 - (intOf v).toNat)
            case atStart => exact ⟨0, by omega, rfl, hid ⟨HL0.out, (Fr.refl _ _).alloc _⟩⟩
            case round =>
              obtain ⟨i, hi, rfl, R⟩ := hrel
              have g0 : wr.cell? ⟨W0.heap.size, 0, none⟩ = (stp (.slice a2 nt c2) (.slice a3 x.length c3) (.slice a3 x.length c3) i)[0]? := cell_at R.out.1 0
              have g1 : wr.cell? ⟨W0.heap.size, 1, none⟩ = (stp (.slice a2 nt c2) (.slice a3 x.length c3) (.slice a3 x.length c3) i)[1]? := cell_at R.out.1 1
              have g2 : wr.cell? ⟨W0.heap.size, 2, none⟩ = (stp (.slice a2 nt c2) (.slice a3 x.length c3) (.slice a3 x.length c3) i)[2]? := cell_at R.out.1 2
              have gf : ∀ q, wr.frozen? ⟨W0.heap.size, q, none⟩ = false := frozen_at R.out.1
              simp only [stp, List.getElem?_toArray, List.getElem?_cons_zero, List.getElem?_cons_succ] at g0 g1 g2
              rcases (show i = 0 ∨ i = 1 ∨ i = 2 ∨ i = 3 by omega) with rfl | rfl | rfl | rfl
              · clear HL0
                go_wp2_with fail
                exact ⟨⟨1, by omega, rfl, hid ⟨heap_setCell R.out.1 0 _, (R.out.2.setCell (p := ⟨W0.heap.size, 0, none⟩) (by simp) _)⟩⟩, by simp [intOf]⟩
              · clear HL0
                go_wp2_with fail
                exact ⟨⟨2, by omega, rfl, hid ⟨heap_setCell R.out.1 1 _, (R.out.2.setCell (p := ⟨W0.heap.size, 1, none⟩) (by simp) _)⟩⟩, by simp [intOf]⟩
              · clear HL0
                go_wp2_with fail
                exact ⟨⟨3, by omega, rfl, hid ⟨heap_setCell R.out.1 2 _, (R.out.2.setCell (p := ⟨W0.heap.size, 2, none⟩) (by simp) _)⟩⟩, by simp [intOf]⟩
              · clear HL0
                have g0 : wr.cell? ⟨W0.heap.size, 0, none⟩ = some (.slice a2 nt c2) := g0
                have g1 : wr.cell? ⟨W0.heap.size, 1, none⟩ = some (.slice a3 x.length c3) := g1
                have g2 : wr.cell? ⟨W0.heap.size, 2, none⟩ = some (.slice a3 x.length c3) := g2
                obtain ⟨j, hj1, hj2⟩ : ∃ j, winP (tri t x x) = some j ∧ tri t x x j = x := win_baa DX.out
                have hj2 : decP (tri t x x j) = some (gen, a) := by rw [hj2]; exact DX.out
                have HJ1 := hid hj1
                have HJ2 := hid hj2
                clear hj1 hj2
                go_wp2_with fail
                refine (vote_some t x x _ _ _ j (gen, a) _ _ (HT5.out.keep0 R.out.2) (X5.out.keep0 R.out.2) (X5.out.keep0 R.out.2) LT.out LX.out LX.out HJ1.out HJ2.out rfl).mono ?_
                rintro e w6 ⟨v6, m6, rfl, h6, i6, f6⟩
                obtain ⟨a6, c6, rfl, _⟩ := h6.form
                obtain ⟨a7, c7, rfl, _⟩ := i6.form
                dsimp only at h6 ⊢
                have F6 := hid (F0.and (F0.and F5.out R.out.2) f6)
                have H6 := hid h6
                clear h6 i6 f6 g0 g1 g2 gf
                have e1 : IntKind.i64.wrap (gen + 1) = gen + 1 := IntWalk.i64_in _ (by omega)
                go_wp2_with fail
                have hq := heap_alloc_last w6 (.cells #[.int .i64 gen, .slice a6 a.length c6] 56)
                have F7 := hid (F6.out.alloc (.cells #[.int .i64 gen, .slice a6 a.length c6] 56))
                have H7 := hid (H6.out.keep0 ((Fr.refl F0 w6).alloc (.cells #[.int .i64 gen, .slice a6 a.length c6] 56)))
                generalize w6.alloc (.cells #[.int .i64 gen, .slice a6 a.length c6] 56) = wx at *
                have hS0 : Fr F0 wx wx.drew := (Fr.refl _ _).drew
                have hc0 : ∀ w' : World, Fr F0 wx w' → w'.cell? ⟨w6.heap.size, 0, none⟩ = some (.int .i64 gen) := fun w' f => by rw [cell_at (f.heap hq (fun e => e))]; rfl
                have hc1 : ∀ w' : World, Fr F0 wx w' → w'.cell? ⟨w6.heap.size, 1, none⟩ = some (.slice a6 a.length c6) := fun w' f => by rw [cell_at (f.heap hq (fun e => e))]; rfl
                refine plan_start (fun w' => Fr F0 wx w') (by kernel_rfl) ?_
                refine plan_take 0 (v := ?_) rfl (by kernel_rfl) (by kernel_rfl) (by kernel_rfl) (fun _ _ _ h => h) (by rfl) hS0 (fun w' hS' => ?_) ?_
                rotate_left
                · (try dsimp only at hS'); go_simp
                  try with_reducible rfl
                simp only [Act.put, List.setIfInBounds_toArray, List.set_cons_zero, List.set_cons_succ]
                refine plan_take 1 (v := ?_) rfl (by kernel_rfl) (by kernel_rfl) (by kernel_rfl) (fun _ _ _ h => h) (by rfl) hS0 (fun w' hS' => ?_) ?_
                rotate_left
                · (try dsimp only at hS'); go_simp
                  try with_reducible rfl
                simp only [Act.put, List.setIfInBounds_toArray, List.set_cons_zero, List.set_cons_succ]
                refine plan_take 2 (v := ?_) rfl (by kernel_rfl) (by kernel_rfl) (by kernel_rfl) (fun _ _ _ h => h) (by rfl) hS0 (fun w' hS' => ?_) ?_
                rotate_left
                · (try dsimp only at hS'); go_simp
                  try with_reducible rfl
                simp only [Act.put, List.setIfInBounds_toArray, List.set_cons_zero, List.set_cons_succ]
                refine plan_take 3 (v := ?_) rfl (by kernel_rfl) (by kernel_rfl) (by kernel_rfl) (fun _ _ _ h => h) (by rfl) hS0 (fun w' hS' => ?_) ?_
                rotate_left
                · (try dsimp only at hS'); go_simp
                  try with_reducible rfl
                simp only [Act.put, List.setIfInBounds_toArray, List.set_cons_zero, List.set_cons_succ]
                refine plan_take 5 (v := ?_) rfl (by kernel_rfl) (by kernel_rfl) (by kernel_rfl) (fun _ _ _ h => h) (by rfl) hS0 (fun w' hS' => ?_) ?_
                rotate_left
                · (try dsimp only at hS'); go_simp
                  try with_reducible rfl
                simp only [Act.put, List.setIfInBounds_toArray, List.set_cons_zero, List.set_cons_succ]
                refine plan_take 6 (v := ?_) rfl (by kernel_rfl) (by kernel_rfl) (by kernel_rfl) (fun _ _ _ h => h) (by rfl) hS0 (fun w' hS' => ?_) ?_
                rotate_left
                · (try dsimp only at hS'); go_simp
                  try with_reducible rfl
                simp only [Act.put, List.setIfInBounds_toArray, List.set_cons_zero, List.set_cons_succ]
                refine plan_take 7 (v := ?_) rfl (by kernel_rfl) (by kernel_rfl) (by kernel_rfl) (fun _ _ _ h => h) (by rfl) hS0 (fun w' hS' => ?_) ?_
                rotate_left
                · (try dsimp only at hS'); go_simp
                  try with_reducible rfl
                simp only [Act.put, List.setIfInBounds_toArray, List.set_cons_zero, List.set_cons_succ]
                refine plan_take 8 (v := ?_) rfl (by kernel_rfl) (by kernel_rfl) (by kernel_rfl) (fun _ _ _ h => h) (by rfl) hS0 (fun w' hS' => ?_) ?_
                rotate_left
                · (try dsimp only at hS'); go_simp
                  try with_reducible rfl
                simp only [Act.put, List.setIfInBounds_toArray, List.set_cons_zero, List.set_cons_succ]
                refine plan_take 9 (v := ?_) rfl (by kernel_rfl) (by kernel_rfl) (by kernel_rfl) (fun _ _ _ h => h) (by rfl) hS0 (fun w' hS' => ?_) ?_
                rotate_left
                · (try dsimp only at hS'); go_simp
                  try with_reducible rfl
                simp only [Act.put, List.setIfInBounds_toArray, List.set_cons_zero, List.set_cons_succ]
                clear hc0 hc1 hq e1
                refine plan_step 4 rfl (by kernel_rfl) (fun K hK => ?_)
                go_wp2_with fail
                have hs := same_c gen gen _ _ a a _ (H7.out.keep0 hS0) (HA.out.keep0 (F0.and F7.out hS0))
                have hsv : (decide (gen = gen) && (a == a)) = true := by simp
                rw [hsv] at hs
                clear hsv
                refine hs.mono ?_
                clear hs
                rintro e w8 ⟨rfl, f8⟩
                have hS1 : Fr F0 wx w8 := F0.and hS0 f8
                clear f8 hS0
                go_wp2_with fail
                refine hK _ _ _ (fun _ h => h) hS1 ?_
                clear hK K
                refine plan_step 10 rfl (by kernel_rfl) (fun K hK => ?_)
                go_wp2_with fail
                have hs := same_c gen (gen + 1) _ _ a b _ (H7.out.keep0 hS1) (HB.out.keep0 (F0.and F7.out hS1))
                generalize (decide (gen = gen + 1) && (a == b)) = E2 at hs
                refine hs.mono ?_
                clear hs
                rintro e w9 ⟨rfl, f9⟩
                have hS2 : Fr F0 wx w9 := F0.and hS1 f9
                clear f9 hS1
                go_wp2_with fail
                refine hK _ _ _ (fun _ h => h) hS2 ?_
                clear hK K
                refine plan_take 11 (v := ?_) rfl (by kernel_rfl) (by kernel_rfl) (by kernel_rfl) (fun _ _ _ h => h) (by rfl) hS2 (fun w' hS' => ?_) ?_
                rotate_left
                · (try dsimp only at hS'); go_simp
                  try with_reducible rfl
                simp only [Act.put, List.setIfInBounds_toArray, List.set_cons_zero, List.set_cons_succ]
                refine plan_take 12 (v := ?_) rfl (by kernel_rfl) (by kernel_rfl) (by kernel_rfl) (fun _ _ _ h => h) (by rfl) hS2 (fun w' hS' => ?_) ?_
                rotate_left
                · (try dsimp only at hS'); go_simp
                  try with_reducible rfl
                simp only [Act.put, List.setIfInBounds_toArray, List.set_cons_zero, List.set_cons_succ]
                refine plan_done (by kernel_rfl) ?_ _
                have F9 := hid (F0.and F7.out hS2)
                clear hS2
                go_wp2_with fail
                refine (awake9_c _).mono ?_
                rintro e w10 ⟨rfl, f10⟩
                have F10 := hid (F0.and F9.out f10)
                clear f10
                go_wp2_with fail
                go_ret
                exact ⟨rfl, F10.out⟩
          · clear hk0 hk1
            have HL0 : Hid ((W0.alloc (.cells #[.slice none 0 0, .slice none 0 0, .slice none 0 0] 53)).heap[W0.heap.size]? = some (.cells (stp (.slice a4 y.length c4) (.slice a2 nt c2) (.slice a3 x.length c3) 0) 53 (0, 0))) := hid (heap_alloc_last _ _)
            go_wp2_with fail
            go_loopw [19] (fun v wr => ∃ i : Nat, i ≤ 3 ∧ v = .int .i64 i ∧ Hid (wr.heap[W0.heap.size]? = some (.cells (stp (.slice a4 y.length c4) (.slice a2 nt c2) (.slice a3 x.length c3) i) 53 (0, 0)) ∧ Fr F0 W0 wr)) (fun v _ => 3 - (intOf v).toNat)
            case atStart => exact ⟨0, by omega, rfl, hid ⟨HL0.out, (Fr.refl _ _).alloc _⟩⟩
            case round =>
              obtain ⟨i, hi, rfl, R⟩ := hrel
              have g0 : wr.cell? ⟨W0.heap.size, 0, none⟩ = (stp (.slice a4 y.length c4) (.slice a2 nt c2) (.slice a3 x.length c3) i)[0]? := cell_at R.out.1 0
              have g1 : wr.cell? ⟨W0.heap.size, 1, none⟩ = (stp (.slice a4 y.length c4) (.slice a2 nt c2) (.slice a3 x.length c3) i)[1]? := cell_at R.out.1 1
              have g2 : wr.cell? ⟨W0.heap.size, 2, none⟩ = (stp (.slice a4 y.length c4) (.slice a2 nt c2) (.slice a3 x.length c3) i)[2]? := cell_at R.out.1 2
              have gf : ∀ q, wr.frozen? ⟨W0.heap.size, q, none⟩ = false := frozen_at R.out.1
              simp only [stp, List.getElem?_toArray, List.getElem?_cons_zero, List.getElem?_cons_succ] at g0 g1 g2
              rcases (show i = 0 ∨ i = 1 ∨ i = 2 ∨ i = 3 by omega) with rfl | rfl | rfl | rfl
              · clear HL0
                go_wp2_with fail
                exact ⟨⟨1, by omega, rfl, hid ⟨heap_setCell R.out.1 0 _, (R.out.2.setCell (p := ⟨W0.heap.size, 0, none⟩) (by simp) _)⟩⟩, by simp [intOf]⟩
              · clear HL0
                go_wp2_with fail
                exact ⟨⟨2, by omega, rfl, hid ⟨heap_setCell R.out.1 1 _, (R.out.2.setCell (p := ⟨W0.heap.size, 1, none⟩) (by simp) _)⟩⟩, by simp [intOf]⟩
              · clear HL0
                go_wp2_with fail
                exact ⟨⟨3, by omega, rfl, hid ⟨heap_setCell R.out.1 2 _, (R.out.2.setCell (p := ⟨W0.heap.size, 2, none⟩) (by simp) _)⟩⟩, by simp [intOf]⟩
              · clear HL0
                have g0 : wr.cell? ⟨W0.heap.size, 0, none⟩ = some (.slice a4 y.length c4) := g0
                have g1 : wr.cell? ⟨W0.heap.size, 1, none⟩ = some (.slice a2 nt c2) := g1
                have g2 : wr.cell? ⟨W0.heap.size, 2, none⟩ = some (.slice a3 x.length c3) := g2
                obtain ⟨j, hj1, hj2⟩ : ∃ j, winP (tri y t x) = some j ∧ decP (tri y t x j) = some (gen + 1, b) := ⟨0, steps1 DX.out DY.out DT.out, DY.out⟩
                have HJ1 := hid hj1
                have HJ2 := hid hj2
                clear hj1 hj2
                go_wp2_with fail
                refine (vote_some y t x _ _ _ j (gen + 1, b) _ _ (Y5.out.keep0 R.out.2) (HT5.out.keep0 R.out.2) (X5.out.keep0 R.out.2) LY.out LT.out LX.out HJ1.out HJ2.out rfl).mono ?_
                rintro e w6 ⟨v6, m6, rfl, h6, i6, f6⟩
                obtain ⟨a6, c6, rfl, _⟩ := h6.form
                obtain ⟨a7, c7, rfl, _⟩ := i6.form
                dsimp only at h6 ⊢
                have F6 := hid (F0.and (F0.and F5.out R.out.2) f6)
                have H6 := hid h6
                clear h6 i6 f6 g0 g1 g2 gf
                have e1 : IntKind.i64.wrap (gen + 1) = gen + 1 := IntWalk.i64_in _ (by omega)
                go_wp2_with fail
                have hq := heap_alloc_last w6 (.cells #[.int .i64 (gen + 1), .slice a6 b.length c6] 56)
                have F7 := hid (F6.out.alloc (.cells #[.int .i64 (gen + 1), .slice a6 b.length c6] 56))
                have H7 := hid (H6.out.keep0 ((Fr.refl F0 w6).alloc (.cells #[.int .i64 (gen + 1), .slice a6 b.length c6] 56)))
                generalize w6.alloc (.cells #[.int .i64 (gen + 1), .slice a6 b.length c6] 56) = wx at *
                have hS0 : Fr F0 wx wx.drew := (Fr.refl _ _).drew
                have hc0 : ∀ w' : World, Fr F0 wx w' → w'.cell? ⟨w6.heap.size, 0, none⟩ = some (.int .i64 (gen + 1)) := fun w' f => by rw [cell_at (f.heap hq (fun e => e))]; rfl
                have hc1 : ∀ w' : World, Fr F0 wx w' → w'.cell? ⟨w6.heap.size, 1, none⟩ = some (.slice a6 b.length c6) := fun w' f => by rw [cell_at (f.heap hq (fun e => e))]; rfl
                refine plan_start (fun w' => Fr F0 wx w') (by kernel_rfl) ?_
                refine plan_take 0 (v := ?_) rfl (by kernel_rfl) (by kernel_rfl) (by kernel_rfl) (fun _ _ _ h => h) (by rfl) hS0 (fun w' hS' => ?_) ?_
                rotate_left
                · (try dsimp only at hS'); go_simp
                  try with_reducible rfl
                simp only [Act.put, List.setIfInBounds_toArray, List.set_cons_zero, List.set_cons_succ]
                refine plan_take 1 (v := ?_) rfl (by kernel_rfl) (by kernel_rfl) (by kernel_rfl) (fun _ _ _ h => h) (by rfl) hS0 (fun w' hS' => ?_) ?_
                rotate_left
                · (try dsimp only at hS'); go_simp
                  try with_reducible rfl
                simp only [Act.put, List.setIfInBounds_toArray, List.set_cons_zero, List.set_cons_succ]
                refine plan_take 2 (v := ?_) rfl (by kernel_rfl) (by kernel_rfl) (by kernel_rfl) (fun _ _ _ h => h) (by rfl) hS0 (fun w' hS' => ?_) ?_
                rotate_left
                · (try dsimp only at hS'); go_simp
                  try with_reducible rfl
                simp only [Act.put, List.setIfInBounds_toArray, List.set_cons_zero, List.set_cons_succ]
                refine plan_take 3 (v := ?_) rfl (by kernel_rfl) (by kernel_rfl) (by kernel_rfl) (fun _ _ _ h => h) (by rfl) hS0 (fun w' hS' => ?_) ?_
                rotate_left
                · (try dsimp only at hS'); go_simp
                  try with_reducible rfl
                simp only [Act.put, List.setIfInBounds_toArray, List.set_cons_zero, List.set_cons_succ]
                refine plan_take 5 (v := ?_) rfl (by kernel_rfl) (by kernel_rfl) (by kernel_rfl) (fun _ _ _ h => h) (by rfl) hS0 (fun w' hS' => ?_) ?_
                rotate_left
                · (try dsimp only at hS'); go_simp
                  try with_reducible rfl
                simp only [Act.put, List.setIfInBounds_toArray, List.set_cons_zero, List.set_cons_succ]
                refine plan_take 6 (v := ?_) rfl (by kernel_rfl) (by kernel_rfl) (by kernel_rfl) (fun _ _ _ h => h) (by rfl) hS0 (fun w' hS' => ?_) ?_
                rotate_left
                · (try dsimp only at hS'); go_simp
                  try with_reducible rfl
                simp only [Act.put, List.setIfInBounds_toArray, List.set_cons_zero, List.set_cons_succ]
                refine plan_take 7 (v := ?_) rfl (by kernel_rfl) (by kernel_rfl) (by kernel_rfl) (fun _ _ _ h => h) (by rfl) hS0 (fun w' hS' => ?_) ?_
                rotate_left
                · (try dsimp only at hS'); go_simp
                  try with_reducible rfl
                simp only [Act.put, List.setIfInBounds_toArray, List.set_cons_zero, List.set_cons_succ]
                refine plan_take 8 (v := ?_) rfl (by kernel_rfl) (by kernel_rfl) (by kernel_rfl) (fun _ _ _ h => h) (by rfl) hS0 (fun w' hS' => ?_) ?_
                rotate_left
                · (try dsimp only at hS'); go_simp
                  try with_reducible rfl
                simp only [Act.put, List.setIfInBounds_toArray, List.set_cons_zero, List.set_cons_succ]
                refine plan_take 9 (v := ?_) rfl (by kernel_rfl) (by kernel_rfl) (by kernel_rfl) (fun _ _ _ h => h) (by rfl) hS0 (fun w' hS' => ?_) ?_
                rotate_left
                · (try dsimp only at hS'); go_simp
                  try with_reducible rfl
                simp only [Act.put, List.setIfInBounds_toArray, List.set_cons_zero, List.set_cons_succ]
                clear hc0 hc1 hq e1
                refine plan_step 4 rfl (by kernel_rfl) (fun K hK => ?_)
                go_wp2_with fail
                have hs := same_c (gen + 1) gen _ _ b a _ (H7.out.keep0 hS0) (HA.out.keep0 (F0.and F7.out hS0))
                generalize (decide (gen + 1 = gen) && (b == a)) = E1 at hs
                refine hs.mono ?_
                clear hs
                rintro e w8 ⟨rfl, f8⟩
                have hS1 : Fr F0 wx w8 := F0.and hS0 f8
                clear f8 hS0
                go_wp2_with fail
                refine hK _ _ _ (fun _ h => h) hS1 ?_
                clear hK K
                refine plan_step 10 rfl (by kernel_rfl) (fun K hK => ?_)
                go_wp2_with fail
                have hs := same_c (gen + 1) (gen + 1) _ _ b b _ (H7.out.keep0 hS1) (HB.out.keep0 (F0.and F7.out hS1))
                have hsv : (decide (gen + 1 = gen + 1) && (b == b)) = true := by simp
                rw [hsv] at hs
                clear hsv
                refine hs.mono ?_
                clear hs
                rintro e w9 ⟨rfl, f9⟩
                have hS2 : Fr F0 wx w9 := F0.and hS1 f9
                clear f9 hS1
                go_wp2_with fail
                refine hK _ _ _ (fun _ h => h) hS2 ?_
                clear hK K
                refine plan_take 11 (v := ?_) rfl (by kernel_rfl) (by kernel_rfl) (by kernel_rfl) (fun _ _ _ h => h) (by rfl) hS2 (fun w' hS' => ?_) ?_
                rotate_left
                · (try dsimp only at hS'); go_simp
                  try with_reducible rfl
                simp only [Act.put, List.setIfInBounds_toArray, List.set_cons_zero, List.set_cons_succ]
                refine plan_take 12 (v := ?_) rfl (by kernel_rfl) (by kernel_rfl) (by kernel_rfl) (fun _ _ _ h => h) (by rfl) hS2 (fun w' hS' => ?_) ?_
                rotate_left
                · (try dsimp only at hS'); go_simp
                  try with_reducible rfl
                simp only [Act.put, List.setIfInBounds_toArray, List.set_cons_zero, List.set_cons_succ]
                refine plan_done (by kernel_rfl) ?_ _
                have F9 := hid (F0.and F7.out hS2)
                clear hS2
                go_wp2_with fail
                refine (awake9_c _).mono ?_
                rintro e w10 ⟨rfl, f10⟩
                have F10 := hid (F0.and F9.out f10)
                clear f10
                go_wp2_with fail
                go_ret
                exact ⟨rfl, F10.out⟩
          · clear hk0 hk1
            have HL0 : Hid ((W0.alloc (.cells #[.slice none 0 0, .slice none 0 0, .slice none 0 0] 53)).heap[W0.heap.size]? = some (.cells (stp (.slice a4 y.length c4) (.slice a4 y.length c4) (.slice a2 nt c2) 0) 53 (0, 0))) := hid (heap_alloc_last _ _)
            go_wp2_with fail
            go_loopw [19] (fun v wr => ∃ i : Nat, i ≤ 3 ∧ v = .int .i64 i ∧ Hid (wr.heap[W0.heap.size]? = some (.cells (stp (.slice a4 y.length c4) (.slice a4 y.length c4) (.slice a2 nt c2) i) 53 (0, 0)) ∧ Fr F0 W0 wr)) (fun v _ => 3 - (intOf v).toNat)
            case atStart => exact ⟨0, by omega, rfl, hid ⟨HL0.out, (Fr.refl _ _).alloc _⟩⟩
            case round =>
              obtain ⟨i, hi, rfl, R⟩ := hrel
              have g0 : wr.cell? ⟨W0.heap.size, 0, none⟩ = (stp (.slice a4 y.length c4) (.slice a4 y.length c4) (.slice a2 nt c2) i)[0]? := cell_at R.out.1 0
              have g1 : wr.cell? ⟨W0.heap.size, 1, none⟩ = (stp (.slice a4 y.length c4) (.slice a4 y.length c4) (.slice a2 nt c2) i)[1]? := cell_at R.out.1 1
              have g2 : wr.cell? ⟨W0.heap.size, 2, none⟩ = (stp (.slice a4 y.length c4) (.slice a4 y.length c4) (.slice a2 nt c2) i)[2]? := cell_at R.out.1 2
              have gf : ∀ q, wr.frozen? ⟨W0.heap.size, q, none⟩ = false := frozen_at R.out.1
              simp only [stp, List.getElem?_toArray, List.getElem?_cons_zero, List.getElem?_cons_succ] at g0 g1 g2
              rcases (show i = 0 ∨ i = 1 ∨ i = 2 ∨ i = 3 by omega) with rfl | rfl | rfl | rfl
              · clear HL0
                go_wp2_with fail
                exact ⟨⟨1, by omega, rfl, hid ⟨heap_setCell R.out.1 0 _, (R.out.2.setCell (p := ⟨W0.heap.size, 0, none⟩) (by simp) _)⟩⟩, by simp [intOf]⟩
              · clear HL0
                go_wp2_with fail
                exact ⟨⟨2, by omega, rfl, hid ⟨heap_setCell R.out.1 1 _, (R.out.2.setCell (p := ⟨W0.heap.size, 1, none⟩) (by simp) _)⟩⟩, by simp [intOf]⟩
              · clear HL0
                go_wp2_with fail
                exact ⟨⟨3, by omega, rfl, hid ⟨heap_setCell R.out.1 2 _, (R.out.2.setCell (p := ⟨W0.heap.size, 2, none⟩) (by simp) _)⟩⟩, by simp [intOf]⟩
              · clear HL0
                have g0 : wr.cell? ⟨W0.heap.size, 0, none⟩ = some (.slice a4 y.length c4) := g0
                have g1 : wr.cell? ⟨W0.heap.size, 1, none⟩ = some (.slice a4 y.length c4) := g1
                have g2 : wr.cell? ⟨W0.heap.size, 2, none⟩ = some (.slice a2 nt c2) := g2
                obtain ⟨j, hj1, hj2⟩ : ∃ j, winP (tri y y t) = some j ∧ decP (tri y y t j) = some (gen + 1, b) := ⟨0, win_aab DY.out, DY.out⟩
                have HJ1 := hid hj1
                have HJ2 := hid hj2
                clear hj1 hj2
                go_wp2_with fail
                refine (vote_some y y t _ _ _ j (gen + 1, b) _ _ (Y5.out.keep0 R.out.2) (Y5.out.keep0 R.out.2) (HT5.out.keep0 R.out.2) LY.out LY.out LT.out HJ1.out HJ2.out rfl).mono ?_
                rintro e w6 ⟨v6, m6, rfl, h6, i6, f6⟩
                obtain ⟨a6, c6, rfl, _⟩ := h6.form
                obtain ⟨a7, c7, rfl, _⟩ := i6.form
                dsimp only at h6 ⊢
                have F6 := hid (F0.and (F0.and F5.out R.out.2) f6)
                have H6 := hid h6
                clear h6 i6 f6 g0 g1 g2 gf
                have e1 : IntKind.i64.wrap (gen + 1) = gen + 1 := IntWalk.i64_in _ (by omega)
                go_wp2_with fail
                have hq := heap_alloc_last w6 (.cells #[.int .i64 (gen + 1), .slice a6 b.length c6] 56)
                have F7 := hid (F6.out.alloc (.cells #[.int .i64 (gen + 1), .slice a6 b.length c6] 56))
                have H7 := hid (H6.out.keep0 ((Fr.refl F0 w6).alloc (.cells #[.int .i64 (gen + 1), .slice a6 b.length c6] 56)))
                generalize w6.alloc (.cells #[.int .i64 (gen + 1), .slice a6 b.length c6] 56) = wx at *
                have hS0 : Fr F0 wx wx.drew := (Fr.refl _ _).drew
                have hc0 : ∀ w' : World, Fr F0 wx w' → w'.cell? ⟨w6.heap.size, 0, none⟩ = some (.int .i64 (gen + 1)) := fun w' f => by rw [cell_at (f.heap hq (fun e => e))]; rfl
                have hc1 : ∀ w' : World, Fr F0 wx w' → w'.cell? ⟨w6.heap.size, 1, none⟩ = some (.slice a6 b.length c6) := fun w' f => by rw [cell_at (f.heap hq (fun e => e))]; rfl
                refine plan_start (fun w' => Fr F0 wx w') (by kernel_rfl) ?_
                refine plan_take 0 (v := ?_) rfl (by kernel_rfl) (by kernel_rfl) (by kernel_rfl) (fun _ _ _ h => h) (by rfl) hS0 (fun w' hS' => ?_) ?_
                rotate_left
                · (try dsimp only at hS'); go_simp
                  try with_reducible rfl
                simp only [Act.put, List.setIfInBounds_toArray, List.set_cons_zero, List.set_cons_succ]
                refine plan_take 1 (v := ?_) rfl (by kernel_rfl) (by kernel_rfl) (by kernel_rfl) (fun _ _ _ h => h) (by rfl) hS0 (fun w' hS' => ?_) ?_
                rotate_left
                · (try dsimp only at hS'); go_simp
                  try with_reducible rfl
                simp only [Act.put, List.setIfInBounds_toArray, List.set_cons_zero, List.set_cons_succ]
                refine plan_take 2 (v := ?_) rfl (by kernel_rfl) (by kernel_rfl) (by kernel_rfl) (fun _ _ _ h => h) (by rfl) hS0 (fun w' hS' => ?_) ?_
                rotate_left
                · (try dsimp only at hS'); go_simp
                  try with_reducible rfl
                simp only [Act.put, List.setIfInBounds_toArray, List.set_cons_zero, List.set_cons_succ]
                refine plan_take 3 (v := ?_) rfl (by kernel_rfl) (by kernel_rfl) (by kernel_rfl) (fun _ _ _ h => h) (by rfl) hS0 (fun w' hS' => ?_) ?_
                rotate_left
                · (try dsimp only at hS'); go_simp
                  try with_reducible rfl
                simp only [Act.put, List.setIfInBounds_toArray, List.set_cons_zero, List.set_cons_succ]
                refine plan_take 5 (v := ?_) rfl (by kernel_rfl) (by kernel_rfl) (by kernel_rfl) (fun _ _ _ h => h) (by rfl) hS0 (fun w' hS' => ?_) ?_
                rotate_left
                · (try dsimp only at hS'); go_simp
                  try with_reducible rfl
                simp only [Act.put, List.setIfInBounds_toArray, List.set_cons_zero, List.set_cons_succ]
                refine plan_take 6 (v := ?_) rfl (by kernel_rfl) (by kernel_rfl) (by kernel_rfl) (fun _ _ _ h => h) (by rfl) hS0 (fun w' hS' => ?_) ?_
                rotate_left
                · (try dsimp only at hS'); go_simp
                  try with_reducible rfl
                simp only [Act.put, List.setIfInBounds_toArray, List.set_cons_zero, List.set_cons_succ]
                refine plan_take 7 (v := ?_) rfl (by kernel_rfl) (by kernel_rfl) (by kernel_rfl) (fun _ _ _ h => h) (by rfl) hS0 (fun w' hS' => ?_) ?_
                rotate_left
                · (try dsimp only at hS'); go_simp
                  try with_reducible rfl
                simp only [Act.put, List.setIfInBounds_toArray, List.set_cons_zero, List.set_cons_succ]
                refine plan_take 8 (v := ?_) rfl (by kernel_rfl) (by kernel_rfl) (by kernel_rfl) (fun _ _ _ h => h) (by rfl) hS0 (fun w' hS' => ?_) ?_
                rotate_left
                · (try dsimp only at hS'); go_simp
                  try with_reducible rfl
                simp only [Act.put, List.setIfInBounds_toArray, List.set_cons_zero, List.set_cons_succ]
                refine plan_take 9 (v := ?_) rfl (by kernel_rfl) (by kernel_rfl) (by kernel_rfl) (fun _ _ _ h => h) (by rfl) hS0 (fun w' hS' => ?_) ?_
                rotate_left
                · (try dsimp only at hS'); go_simp
                  try with_reducible rfl
                simp only [Act.put, List.setIfInBounds_toArray, List.set_cons_zero, List.set_cons_succ]
                clear hc0 hc1 hq e1
                refine plan_step 4 rfl (by kernel_rfl) (fun K hK => ?_)
                go_wp2_with fail
                have hs := same_c (gen + 1) gen _ _ b a _ (H7.out.keep0 hS0) (HA.out.keep0 (F0.and F7.out hS0))
                generalize (decide (gen + 1 = gen) && (b == a)) = E1 at hs
                refine hs.mono ?_
                clear hs
                rintro e w8 ⟨rfl, f8⟩
                have hS1 : Fr F0 wx w8 := F0.and hS0 f8
                clear f8 hS0
                go_wp2_with fail
                refine hK _ _ _ (fun _ h => h) hS1 ?_
                clear hK K
                refine plan_step 10 rfl (by kernel_rfl) (fun K hK => ?_)
                go_wp2_with fail
                have hs := same_c (gen + 1) (gen + 1) _ _ b b _ (H7.out.keep0 hS1) (HB.out.keep0 (F0.and F7.out hS1))
                have hsv : (decide (gen + 1 = gen + 1) && (b == b)) = true := by simp
                rw [hsv] at hs
                clear hsv
                refine hs.mono ?_
                clear hs
                rintro e w9 ⟨rfl, f9⟩
                have hS2 : Fr F0 wx w9 := F0.and hS1 f9
                clear f9 hS1
                go_wp2_with fail
                refine hK _ _ _ (fun _ h => h) hS2 ?_
                clear hK K
                refine plan_take 11 (v := ?_) rfl (by kernel_rfl) (by kernel_rfl) (by kernel_rfl) (fun _ _ _ h => h) (by rfl) hS2 (fun w' hS' => ?_) ?_
                rotate_left
                · (try dsimp only at hS'); go_simp
                  try with_reducible rfl
                simp only [Act.put, List.setIfInBounds_toArray, List.set_cons_zero, List.set_cons_succ]
                refine plan_take 12 (v := ?_) rfl (by kernel_rfl) (by kernel_rfl) (by kernel_rfl) (fun _ _ _ h => h) (by rfl) hS2 (fun w' hS' => ?_) ?_
                rotate_left
                · (try dsimp only at hS'); go_simp
                  try with_reducible rfl
                simp only [Act.put, List.setIfInBounds_toArray, List.set_cons_zero, List.set_cons_succ]
                refine plan_done (by kernel_rfl) ?_ _
                have F9 := hid (F0.and F7.out hS2)
                clear hS2
                go_wp2_with fail
                refine (awake9_c _).mono ?_
                rintro e w10 ⟨rfl, f10⟩
                have F10 := hid (F0.and F9.out f10)
                clear f10
                go_wp2_with fail
                go_ret
                exact ⟨rfl, F10.out⟩

end Go.Proofs.Ytfalaopljodmnaa
