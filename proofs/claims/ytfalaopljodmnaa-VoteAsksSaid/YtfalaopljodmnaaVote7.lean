/- linnetlaw9: awake. -/
import Derived.Test.YtfalaopljodmnaaVote6
import Derived.Test.YtfalaopljodmnaaAwake3
namespace Go.Proofs.Ytfalaopljodmnaa
open Go.RowKit

theorem gnum_le4 (n : Nat) (r : List UInt8) (h : n ≤ 2147483647) : gnum (leB 4 n ++ r) = n := by
  have ht : (leB 4 n ++ r).take 4 = leB 4 n := by
    have := List.take_left' (l₁ := leB 4 n) (l₂ := r) (i := 4) (leB_length 4 n)
    exact this
  have hv : leV (leB 4 n) = n := by rw [leV_leB]; omega
  unfold gnum
  rw [ht, hv, if_neg (by rw [List.length_append, leB_length]; omega)]

theorem gbytes_le4 (m r : List UInt8) (most : Int) (h : m.length ≤ 2147483647) (hm : (m.length : Int) ≤ most) : gbytes (leB 4 m.length ++ (m ++ r)) most = (m, r, 0) := by
  unfold gbytes
  rw [gnum_le4 _ _ h, if_neg (by rw [List.length_append, leB_length, List.length_append]; omega), if_neg (by omega), Int.toNat_natCast]
  have hd : (leB 4 m.length ++ (m ++ r)).drop 4 = m ++ r := List.drop_left' (leB_length 4 m.length)
  rw [← List.drop_drop, hd, List.take_left' rfl, List.drop_left' rfl]

theorem pageOf_enc (g : Nat) (b : List UInt8) (h0 : 1 ≤ g) (h1 : g ≤ 2147483647) (hb : b.length ≤ 60000) : pageOf (pageB g b) = some ((g : Int), b) := by
  have hd : (pageB g b).drop 4 = leB 4 b.length ++ (b ++ []) := by
    unfold pageB
    rw [List.append_nil]
    exact List.drop_left' (leB_length 4 g)
  have hg : gnum (pageB g b) = g := gnum_le4 g _ h1
  unfold pageOf
  rw [hd, gbytes_le4 b [] 60000 (by omega) (by omega), hg, if_neg (by rw [pageB_len]; simp; omega)]

theorem decP_enc {g : Int} {b y : List UInt8} (h : encP g b = some y) : decP y = some (g, b) := by
  unfold encP at h
  split at h
  · rename_i hc
    cases h
    unfold decP
    rw [opened_sealed]
    show pageOf _ = _
    rw [pageOf_enc _ _ (by omega) (by omega) hc.2.2]
    congr 2
    omega
  · cases h

theorem encP_some {g : Int} {b : List UInt8} (h0 : 1 ≤ g) (h1 : g ≤ 2147483647) (hb : b.length ≤ 60000) : ∃ y, encP g b = some y := ⟨_, if_pos ⟨h0, h1, hb⟩⟩

theorem encP_len {g : Int} {b y : List UInt8} (h : encP g b = some y) : y.length = b.length + 40 := by
  unfold encP at h
  split at h
  · cases h; rw [sealed, List.length_append, sha_len, pageB_len]
  · cases h

theorem win_aba {A B : List UInt8} {p : Int × List UInt8} (hA : decP A = some p) : winP (tri A B A) = some 0 := by
  by_cases h : A = B
  · subst h
    simp [winP, bv, cntN, tri, hA, pgGen]
  · have h' : ¬ B = A := fun e => h e.symm
    cases hB : decP B <;> simp [winP, bv, cntN, tri, hA, hB, h, h', pgGen]

theorem win_aab {A B : List UInt8} {p : Int × List UInt8} (hA : decP A = some p) : winP (tri A A B) = some 0 := by
  by_cases h : A = B
  · subst h
    simp [winP, bv, cntN, tri, hA, pgGen]
  · have h' : ¬ B = A := fun e => h e.symm
    cases hB : decP B <;> simp [winP, bv, cntN, tri, hA, hB, h, h', pgGen]

theorem win_baa {A B : List UInt8} {p : Int × List UInt8} (hA : decP A = some p) : ∃ j, winP (tri B A A) = some j ∧ tri B A A j = A := by
  by_cases h : A = B
  · subst h
    exact ⟨0, by simp [winP, bv, cntN, tri, hA, pgGen], rfl⟩
  · have h' : ¬ B = A := fun e => h e.symm
    refine ⟨1, ?_, rfl⟩
    cases hB : decP B <;> simp [winP, bv, cntN, tri, hA, hB, h, h', pgGen]

theorem win_none : winP (tri [] [] []) = none := by
  have : decP [] = none := by unfold decP opened; simp
  simp [winP, bv, tri, this]

theorem Rd.oneM (w : World) (u : UInt8) (e : Nat) (f : Nat × Nat) : Rd (w.alloc (.cells #[.int .u8 u.toNat] e f)) (.slice (some ⟨w.heap.size, 0, none⟩) 1 1) [u] := by
  refine ⟨rfl, _, 1, rfl, Nat.le_refl _, by simp [maxLen], (fun h => by cases h), fun _ => ⟨w.heap.size, 0, rfl, by simp, fun j hj => ?_⟩⟩
  obtain rfl : j = 0 := by simpa using hj
  rw [cell_at (heap_alloc_last _ _)]; rfl

theorem Ob.fr_rd {w w' : World} {v : Value} {l : List UInt8} (h : Ob w 5 v l) (f : Fr F0 w w') : Rd w' v l := (h.keep0 f).rd

theorem venc_some (gen : Int) (v : Value) (b y : List UInt8) (w : World) (hr : Rd w v b) (hl : b.length ≤ 35184372088832) (h : encP gen b = some y) :
    Calls Try.prog 37 #[.agg #[.int .i64 gen, v]] w fun e w' => ∃ r, e = .returned (.tuple #[r, .int .i64 0]) ∧ Rd w' r y ∧ Fr F0 w w' :=
  (venc_c gen v b w hr hl).mono fun e w' ⟨r, h1, h2, h3, _⟩ => by rw [h] at h1 h2; exact ⟨r, h1, h2.rd, h3⟩

theorem vote_some (a b c : List UInt8) (va vb vc : Value) (j : Nat) (p : Int × List UInt8) (m : List Int) (w : World) (ha : Rd w va a) (hb : Rd w vb b) (hc : Rd w vc c) (la : a.length ≤ 35184372088832) (lb : b.length ≤ 35184372088832) (lc : c.length ≤ 35184372088832)
    (hw : winP (tri a b c) = some j) (hp : decP (tri a b c j) = some p) (hm : minor (tri a b c) j 3 = m) :
    Calls Try.prog 34 #[va, vb, vc] w fun e w' => ∃ v mv, e = .returned (.tuple #[.agg #[.int .i64 p.1, v], mv, .int .i64 0]) ∧ Rd w' v p.2 ∧ Ri w' mv m ∧ Fr F0 w w' :=
  (vote_c a b c va vb vc w ha hb hc la lb lc).mono fun e w' ⟨v, mv, h1, h2, h3, h4⟩ => by
    rw [hw] at h1 h2 h3
    dsimp only [Option.bind_some, Option.isSome_some] at h1 h2 h3
    rw [hp] at h1 h2
    rw [hm] at h3
    exact ⟨v, mv, h1, h2, h3, h4⟩

theorem vote_none (a b c : List UInt8) (va vb vc : Value) (w : World) (ha : Rd w va a) (hb : Rd w vb b) (hc : Rd w vc c) (la : a.length ≤ 35184372088832) (lb : b.length ≤ 35184372088832) (lc : c.length ≤ 35184372088832)
    (hw : winP (tri a b c) = none) :
    Calls Try.prog 34 #[va, vb, vc] w fun e w' => ∃ v mv, e = .returned (.tuple #[.agg #[.int .i64 0, v], mv, .int .i64 10]) ∧ Rd w' v [] ∧ Ri w' mv [] ∧ Fr F0 w w' :=
  (vote_c a b c va vb vc w ha hb hc la lb lc).mono fun e w' ⟨v, mv, h1, h2, h3, h4⟩ => by
    rw [hw] at h1 h2 h3
    exact ⟨v, mv, h1, h2, h3, h4⟩

set_option maxRecDepth 100000 in
set_option maxHeartbeats 1600000 in
theorem awake9_c (w : World) : Calls Try.prog 33 #[] w (Yes w) := by
  obtain ⟨A, hA⟩ := encP_some (g := 1) (b := [97]) (by omega) (by omega) (by simp)
  obtain ⟨B, hB⟩ := encP_some (g := 2) (b := []) (by omega) (by omega) (by simp)
  have hAl := encP_len hA
  have hBl := encP_len hB
  have hdA := decP_enc hA
  have hne : ¬ B = A := fun e => by rw [e] at hBl; simp at hAl hBl; omega
  have hM : minor (tri A B A) 0 3 = [1] := by simp [minor, tri, hne]
  have HA := hid hA
  have HB := hid hB
  have HAl : Hid (A.length ≤ 35184372088832) := hid (by simp at hAl; omega)
  have HBl : Hid (B.length ≤ 35184372088832) := hid (by simp at hBl; omega)
  have HdA := hid hdA
  have HM := hid hM
  clear hA hB hAl hBl hdA hne hM
  have kc := fun (w : World) (C : Array Value) (n c : Nat) => Lib.run_convert_bytes_const (P := Try.prog) w 25 5 C n c Try.underlying25 Try.underlying5
  go_enter Try.func33, Try.ntmps33
  go_wp2_with fail
  refine (venc_some 1 _ [97] A _ (Rd.oneM w 97 5 (1, 2)) (by simp) HA.out).mono ?_
  rintro e w1 ⟨r1, rfl, h1, f1⟩
  obtain ⟨a1, c1, rfl, _⟩ := h1.form
  have F1 := hid (F0.and ((Fr.refl F0 w).alloc _) f1)
  have H1 := hid h1
  clear h1 f1
  go_wp2_with fail
  refine (venc_some 2 _ [] B _ (Rd.nil w1) (by simp) HB.out).mono ?_
  rintro e w2 ⟨r2, rfl, h2, f2⟩
  obtain ⟨a2, c2, rfl, _⟩ := h2.form
  have F2 := hid (F0.and F1.out f2)
  have H2 := hid h2
  have H1 := hid (H1.out.keep0 f2)
  clear h2 f2
  go_wp2_with fail
  refine (vote_some A B A _ _ _ 0 (1, [97]) [1] _ H1.out H2.out H1.out HAl.out HBl.out HAl.out (win_aba HdA.out) HdA.out HM.out).mono ?_
  rintro e w3 ⟨v3, m3, rfl, h3, i3, f3⟩
  obtain ⟨a3, c3, rfl, _⟩ := h3.form
  obtain ⟨ao, oo, c4, rfl, _, hcell⟩ := i3.open (by simp)
  have hc0 := hcell 0 1 rfl
  rw [Nat.add_zero] at hc0
  have F3 := hid (F0.and F2.out f3)
  have HC := hid hc0
  clear h3 i3 f3 hcell hc0
  go_wp2_with fail
  refine (vote_none [] [] [] _ _ _ _ (Rd.nil _) (Rd.nil _) (Rd.nil _) (by simp) (by simp) (by simp) win_none).mono ?_
  rintro e w4 ⟨v4, m4, rfl, h4, i4, f4⟩
  obtain ⟨a4, c4', rfl, _⟩ := h4.form
  obtain ⟨a5, c5, rfl, _⟩ := i4.form
  have f34 := F0.and ((Fr.refl F0 w3).alloc (.cells #[.int .i64 1, .slice a3 [(97 : UInt8)].length c3] 56)) f4
  have hq : w4.cell? ⟨w3.heap.size, 0, none⟩ = some (.int .i64 1) := by rw [cell_at (f4.heap (heap_alloc_last _ _) (fun e => e))]; rfl
  have hc : w4.cell? ⟨ao, oo, none⟩ = some (.int .i64 1) := by rw [f34.cell (block_lt_of_cell HC.out) (fun e => e)]; exact HC.out
  have hz : w3.heap.size < w4.heap.size := lt_of_heap (f4.heap (heap_alloc_last _ _) (fun e => e))
  have hz2 : ao < w4.heap.size := by have := block_lt_of_cell HC.out; have : ao < w3.heap.size := this; omega
  have F4 := hid (F0.and F3.out f34)
  clear h4 i4 f4 f34
  go_wp2_with fail
  go_ret
  exact ⟨rfl, F4.out.alloc _⟩

end Go.Proofs.Ytfalaopljodmnaa
