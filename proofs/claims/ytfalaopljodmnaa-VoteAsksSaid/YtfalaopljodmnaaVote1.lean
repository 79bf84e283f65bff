/- vote: Encode; the reference's EncodePage. -/
import Derived.Test.YtfalaopljodmnaaWW
namespace Go.Proofs.Ytfalaopljodmnaa
open Go.RowKit

/-- A page's bytes. -/
def pageB (gen : Nat) (b : List UInt8) : List UInt8 := leB 4 gen ++ (leB 4 b.length ++ b)

/-- A page as bytes. -/
def encP (gen : Int) (b : List UInt8) : Option (List UInt8) :=
  if 1 ≤ gen ∧ gen ≤ 2147483647 ∧ b.length ≤ 60000 then some (sealed (pageB gen.toNat b)) else none

theorem pageB_len (gen : Nat) (b : List UInt8) : (pageB gen b).length = b.length + 8 := by simp [pageB, leB_length]; omega

set_option maxRecDepth 100000 in
set_option maxHeartbeats 1600000 in
theorem venc_c (gen : Int) (v : Value) (b : List UInt8) (w : World) (hr : Rd w v b) (hl : b.length ≤ 35184372088832) :
    Calls Try.prog 37 #[.agg #[.int .i64 gen, v]] w fun e w' => OpenTo w (encP gen b) 1 e w' := by
  obtain ⟨ao, c, rfl, _⟩ := hr.form
  obtain ⟨n, HN⟩ : ∃ n, Hid (b.length = n) := ⟨_, hid rfl⟩
  rw [HN.out] at hr hl ⊢
  have HR := hid hr
  clear hr
  have hno : ∀ (h : ¬ (1 ≤ gen ∧ gen ≤ 2147483647 ∧ n ≤ 60000)) (w' : World), Fr F0 w w' → OpenTo w (encP gen b) 1 (.returned (.tuple #[.slice none 0 0, .int .i64 1])) w' := fun h w' f => by
    have : encP gen b = none := by unfold encP; rw [HN.out, if_neg h]
    rw [this]
    exact ⟨_, rfl, Ob.nil _ _, f, New.nil _ _ _⟩
  have HNO := hid hno
  clear hno
  by_cases h1 : gen < 1
  · go_enter Try.func37, Try.ntmps37
    go_wp2_with fail
    go_ret2
    exact HNO.out (by omega) _ ((Fr.refl _ _).alloc _)
  · by_cases h2 : 2147483647 < gen
    · go_enter Try.func37, Try.ntmps37
      go_wp2_with fail
      go_ret2
      exact HNO.out (by omega) _ ((Fr.refl _ _).alloc _)
    · by_cases h3 : 60000 < n
      · have h3' : 60000 < (n : Int) := by omega
        go_enter Try.func37, Try.ntmps37
        go_wp2_with fail
        go_ret2
        exact HNO.out (by omega) _ ((Fr.refl _ _).alloc _)
      · have h3' : ¬ 60000 < (n : Int) := by omega
        have HE : Hid (encP gen b = some (sealed (pageB gen.toNat b))) := hid (by unfold encP; rw [HN.out, if_pos ⟨by omega, by omega, by omega⟩])
        clear h3 HNO
        go_enter Try.func37, Try.ntmps37
        go_wp2_with fail
        refine plan_start (fun w' => w'.cell? ⟨w.heap.size, 0, none⟩ = some (.int .i64 gen) ∧ w'.cell? ⟨w.heap.size, 1, none⟩ = some (.slice ao n c)) (by kernel_rfl) ?_
        have HB := hid (heap_alloc_last w (.cells #[.int .i64 gen, .slice ao n c] 56))
        have HS : Hid (∀ w' : World, w'.heap[w.heap.size]? = some (.cells #[.int .i64 gen, .slice ao n c] 56 (0, 0)) → w'.cell? ⟨w.heap.size, 0, none⟩ = some (.int .i64 gen) ∧ w'.cell? ⟨w.heap.size, 1, none⟩ = some (.slice ao n c)) :=
          hid (fun w' h => ⟨by rw [cell_at h]; rfl, by rw [cell_at h]; rfl⟩)
        have hS0 := HS.out (w.alloc (.cells #[.int .i64 gen, .slice ao n c] 56)).drew HB.out
        refine plan_take 1 (v := ?_) rfl (by kernel_rfl) (by kernel_rfl) (by kernel_rfl) (fun _ _ _ h => h) (by rfl) hS0 (fun w' hS' => ?_) ?_
        rotate_left
        · (try dsimp only at hS'); go_simp
          try with_reducible rfl
        simp only [Act.put, List.setIfInBounds_toArray, List.set_cons_zero, List.set_cons_succ]
        refine plan_take 2 (v := ?_) rfl (by kernel_rfl) (by kernel_rfl) (by kernel_rfl) (fun _ _ _ h => h) (by rfl) hS0 (fun w' hS' => ?_) ?_
        rotate_left
        · (try dsimp only at hS'); go_simp
          try with_reducible rfl
        simp only [Act.put, List.setIfInBounds_toArray, List.set_cons_zero, List.set_cons_succ]
        refine plan_take 4 (v := ?_) rfl (by kernel_rfl) (by kernel_rfl) (by kernel_rfl) (fun _ _ _ h => h) (by rfl) hS0 (fun w' hS' => ?_) ?_
        rotate_left
        · (try dsimp only at hS'); go_simp
          try with_reducible rfl
        simp only [Act.put, List.setIfInBounds_toArray, List.set_cons_zero, List.set_cons_succ]
        refine plan_take 5 (v := ?_) rfl (by kernel_rfl) (by kernel_rfl) (by kernel_rfl) (fun _ _ _ h => h) (by rfl) hS0 (fun w' hS' => ?_) ?_
        rotate_left
        · (try dsimp only at hS'); go_simp
          try with_reducible rfl
        simp only [Act.put, List.setIfInBounds_toArray, List.set_cons_zero, List.set_cons_succ]
        clear hS0
        refine plan_step 0 rfl (by kernel_rfl) (fun K hK => ?_)
        go_wp2_with fail
        have HW1 : Hid (WW (w.alloc (.cells #[.int .i64 gen, .slice ao n c] 56)) ((w.alloc (.cells #[.int .i64 gen, .slice ao n c] 56)).alloc (.cells #[.slice none 0 0, .bool false] 48)).drew (w.heap.size + 1) []) :=
          hid (WW.start (heap_alloc_two w _ _) (((Fr.refl _ _).alloc _).drew) (by simp))
        have HF : Hid (Fr F0 w (w.alloc (.cells #[.int .i64 gen, .slice ao n c] 56))) := hid ((Fr.refl _ _).alloc _)
        have HR0 := hid (HR.out.keep0 HF.out)
        refine hK _ _ _ (fun _ h => h) (HS.out _ (HW1.out.fr.heap HB.out (fun e => e))) ?_
        clear hK K
        generalize w.alloc (.cells #[.int .i64 gen, .slice ao n c] 56) = W0 at *
        refine plan_step 3 rfl (by kernel_rfl) (fun K hK => ?_)
        go_wp2_with fail
        refine (ww_num W0 _ (w.heap.size + 1) [] gen HW1.out (by omega) (by omega) (by simp)).mono ?_
        rintro e W2 ⟨rfl, h2⟩
        have HW2 := hid h2
        clear h2 HW1
        go_wp2_with fail
        refine hK _ _ _ (fun _ h => h) (HS.out _ (HW2.out.fr.heap HB.out (fun e => e))) ?_
        clear hK K
        refine plan_step 6 rfl (by kernel_rfl) (fun K hK => ?_)
        go_wp2_with fail
        refine (ww_bytes W0 _ (w.heap.size + 1) _ b _ HW2.out HR0.out (by rw [HN.out]; omega) (by simp [leB_length])).mono ?_
        rintro e W3 ⟨rfl, h3⟩
        have HW3 : Hid (WW W0 W3 (w.heap.size + 1) (pageB gen.toNat b)) := hid h3
        clear h3 HW2
        go_wp2_with fail
        refine hK _ _ _ (fun _ h => h) (HS.out _ (HW3.out.fr.heap HB.out (fun e => e))) ?_
        clear hK K
        refine plan_step 7 rfl (by kernel_rfl) (fun K hK => ?_)
        go_wp2_with fail
        refine (ww_done W0 _ (w.heap.size + 1) _ HW3.out (by rw [pageB_len, HN.out]; omega)).mono ?_
        rintro e W4 ⟨v4, rfl, h4, f4, n4⟩
        obtain ⟨a4, m4, c4, rfl⟩ := h4.form
        have H4 := hid h4.rd
        have F4 := hid (F0.and HF.out f4)
        have hS0 := HS.out _ (f4.heap HB.out (fun e => e))
        clear h4 f4 n4 HW3
        go_wp2_with fail
        refine hK _ _ _ (fun _ h => h) hS0 ?_
        clear hK K
        refine plan_take 8 (v := ?_) rfl (by kernel_rfl) (by kernel_rfl) (by kernel_rfl) (fun _ _ _ h => h) (by rfl) hS0 (fun w' hS' => ?_) ?_
        rotate_left
        · (try dsimp only at hS'); go_simp
          try with_reducible rfl
        simp only [Act.put, List.setIfInBounds_toArray, List.set_cons_zero, List.set_cons_succ]
        refine plan_take 9 (v := ?_) rfl (by kernel_rfl) (by kernel_rfl) (by kernel_rfl) (fun _ _ _ h => h) (by rfl) hS0 (fun w' hS' => ?_) ?_
        rotate_left
        · (try dsimp only at hS'); go_simp
          try with_reducible rfl
        simp only [Act.put, List.setIfInBounds_toArray, List.set_cons_zero, List.set_cons_succ]
        refine plan_take 10 (v := ?_) rfl (by kernel_rfl) (by kernel_rfl) (by kernel_rfl) (fun _ _ _ h => h) (by rfl) hS0 (fun w' hS' => ?_) ?_
        rotate_left
        · (try dsimp only at hS'); go_simp
          try with_reducible rfl
        simp only [Act.put, List.setIfInBounds_toArray, List.set_cons_zero, List.set_cons_succ]
        refine plan_take 11 (v := ?_) rfl (by kernel_rfl) (by kernel_rfl) (by kernel_rfl) (fun _ _ _ h => h) (by rfl) hS0 (fun w' hS' => ?_) ?_
        rotate_left
        · (try dsimp only at hS'); go_simp
          try with_reducible rfl
        simp only [Act.put, List.setIfInBounds_toArray, List.set_cons_zero, List.set_cons_succ]
        refine plan_take 12 (v := ?_) rfl (by kernel_rfl) (by kernel_rfl) (by kernel_rfl) (fun _ _ _ h => h) (by rfl) hS0 (fun w' hS' => ?_) ?_
        rotate_left
        · (try dsimp only at hS'); go_simp
          try with_reducible rfl
        simp only [Act.put, List.setIfInBounds_toArray, List.set_cons_zero, List.set_cons_succ]
        clear hS0
        refine plan_done (by kernel_rfl) ?_ _
        go_wp2_with fail
        refine (seal_c _ _ _ H4.out (by rw [pageB_len, HN.out]; omega)).mono ?_
        rintro e W5 ⟨r5, rfl, h5, f5, n5⟩
        obtain ⟨a5, m5, c5, rfl⟩ := h5.form
        have H5 := hid (show OpenTo w (encP gen b) 1 (.returned (.tuple #[.slice a5 m5 c5, .int .i64 0])) W5 from ⟨_, by rw [HE.out]; rfl, by rw [HE.out]; exact h5, F0.and F4.out f5, fun k hk => Nat.le_trans F4.out.size (n5 k hk)⟩)
        clear h5 f5 n5
        go_wp2_with fail
        go_ret2
        exact H5.out

set_option maxRecDepth 100000 in
set_option maxHeartbeats 1600000 in
theorem rencp_c (gen : Int) (v : Value) (b : List UInt8) (w : World) (hr : Rd w v b) (hl : b.length ≤ 35184372088832) :
    Calls Try.prog 38 #[.agg #[.int .i64 gen, v]] w fun e w' => OpenTo w (encP gen b) 1 e w' := by
  obtain ⟨ao, c, rfl, _⟩ := hr.form
  obtain ⟨n, HN⟩ : ∃ n, Hid (b.length = n) := ⟨_, hid rfl⟩
  rw [HN.out] at hr hl ⊢
  have HR := hid hr
  clear hr
  have hno : ∀ (h : ¬ (1 ≤ gen ∧ gen ≤ 2147483647 ∧ n ≤ 60000)) (w' : World), Fr F0 w w' → OpenTo w (encP gen b) 1 (.returned (.tuple #[.slice none 0 0, .int .i64 1])) w' := fun h w' f => by
    have : encP gen b = none := by unfold encP; rw [HN.out, if_neg h]
    rw [this]
    exact ⟨_, rfl, Ob.nil _ _, f, New.nil _ _ _⟩
  have HNO := hid hno
  clear hno
  by_cases h1 : gen < 1
  · go_enter Try.func38, Try.ntmps38
    go_wp2_with fail
    go_ret2
    exact HNO.out (by omega) _ ((Fr.refl _ _).alloc _)
  · by_cases h2 : 2147483647 < gen
    · go_enter Try.func38, Try.ntmps38
      go_wp2_with fail
      go_ret2
      exact HNO.out (by omega) _ ((Fr.refl _ _).alloc _)
    · by_cases h3 : 60000 < n
      · have h3' : 60000 < (n : Int) := by omega
        go_enter Try.func38, Try.ntmps38
        go_wp2_with fail
        go_ret2
        exact HNO.out (by omega) _ ((Fr.refl _ _).alloc _)
      · have h3' : ¬ 60000 < (n : Int) := by omega
        have HE : Hid (encP gen b = some (sealed (pageB gen.toNat b))) := hid (by unfold encP; rw [HN.out, if_pos ⟨by omega, by omega, by omega⟩])
        clear h3 HNO
        go_enter Try.func38, Try.ntmps38
        go_wp2_with fail
        refine plan_start (fun w' => w'.cell? ⟨w.heap.size, 0, none⟩ = some (.int .i64 gen) ∧ w'.cell? ⟨w.heap.size, 1, none⟩ = some (.slice ao n c)) (by kernel_rfl) ?_
        have HB := hid (heap_alloc_last w (.cells #[.int .i64 gen, .slice ao n c] 59))
        have HS : Hid (∀ w' : World, w'.heap[w.heap.size]? = some (.cells #[.int .i64 gen, .slice ao n c] 59 (0, 0)) → w'.cell? ⟨w.heap.size, 0, none⟩ = some (.int .i64 gen) ∧ w'.cell? ⟨w.heap.size, 1, none⟩ = some (.slice ao n c)) :=
          hid (fun w' h => ⟨by rw [cell_at h]; rfl, by rw [cell_at h]; rfl⟩)
        have hS0 := HS.out (w.alloc (.cells #[.int .i64 gen, .slice ao n c] 59)).drew HB.out
        refine plan_take 0 (v := ?_) rfl (by kernel_rfl) (by kernel_rfl) (by kernel_rfl) (fun _ _ _ h => h) (by rfl) hS0 (fun w' hS' => ?_) ?_
        rotate_left
        · (try dsimp only at hS'); go_simp
          try with_reducible rfl
        simp only [Act.put, List.setIfInBounds_toArray, List.set_cons_zero, List.set_cons_succ]
        refine plan_take 1 (v := ?_) rfl (by kernel_rfl) (by kernel_rfl) (by kernel_rfl) (fun _ _ _ h => h) (by rfl) hS0 (fun w' hS' => ?_) ?_
        rotate_left
        · (try dsimp only at hS'); go_simp
          try with_reducible rfl
        simp only [Act.put, List.setIfInBounds_toArray, List.set_cons_zero, List.set_cons_succ]
        refine plan_take 3 (v := ?_) rfl (by kernel_rfl) (by kernel_rfl) (by kernel_rfl) (fun _ _ _ h => h) (by rfl) hS0 (fun w' hS' => ?_) ?_
        rotate_left
        · (try dsimp only at hS'); go_simp
          try with_reducible rfl
        simp only [Act.put, List.setIfInBounds_toArray, List.set_cons_zero, List.set_cons_succ]
        refine plan_take 4 (v := ?_) rfl (by kernel_rfl) (by kernel_rfl) (by kernel_rfl) (fun _ _ _ h => h) (by rfl) hS0 (fun w' hS' => ?_) ?_
        rotate_left
        · (try dsimp only at hS'); go_simp
          try with_reducible rfl
        simp only [Act.put, List.setIfInBounds_toArray, List.set_cons_zero, List.set_cons_succ]
        clear hS0
        have HF : Hid (Fr F0 w (w.alloc (.cells #[.int .i64 gen, .slice ao n c] 59))) := hid ((Fr.refl _ _).alloc _)
        have HR0 := hid (HR.out.keep0 HF.out)
        have HS1 : Hid (w.heap.size < (w.alloc (.cells #[.int .i64 gen, .slice ao n c] 59)).heap.size) := hid (by simp)
        generalize w.alloc (.cells #[.int .i64 gen, .slice ao n c] 59) = W0 at *
        refine plan_step 2 rfl (by kernel_rfl) (fun K hK => ?_)
        go_wp2_with fail
        refine (refnum_c gen _ (by omega)).mono ?_
        rintro e W1 ⟨v1, rfl, h1, f1, n1⟩
        obtain ⟨a1, m1, c1, rfl⟩ := h1.form
        have H1 := hid h1
        have F1 : Hid (Fr F0 W0 W1) := hid (F0.and ((Fr.refl F0 W0).drew) f1)
        have N1 : Hid (New W0 (.slice a1 m1 c1)) := hid n1
        clear h1 f1 n1
        go_wp2_with fail
        refine hK _ _ _ (fun _ h => h) (HS.out _ (F1.out.heap HB.out (fun e => e))) ?_
        clear hK K
        refine plan_step 5 rfl (by kernel_rfl) (fun K hK => ?_)
        go_wp2_with fail
        refine (refbytes_c _ b _ (HR0.out.keep0 F1.out) (by rw [HN.out]; omega)).mono ?_
        rintro e W2 ⟨v2, rfl, h2, f2, n2⟩
        obtain ⟨a2, m2, c2, rfl⟩ := h2.form
        have H2 := hid h2.rd
        have F2 : Hid (Fr F0 W0 W2) := hid (F0.and F1.out f2)
        have H1' := hid (H1.out.keep0 f2)
        clear h2 f2 n2 H1 F1
        go_wp2_with fail
        refine hK _ _ _ (fun _ h => h) (HS.out _ (F2.out.heap HB.out (fun e => e))) ?_
        clear hK K
        refine plan_step 6 rfl (by kernel_rfl) (fun K hK => ?_)
        go_wp2_with (at_builtin; refine wpList_appB rfl (.tmp 20) (.tmp 23) 25 rfl 5 Try.underlying25 infoB _ _ (leB 4 gen.toNat) (leB 4 b.length ++ b) rfl rfl H1'.out H2.out (by rw [leB_length, List.length_append, leB_length, HN.out]; omega) ?_)
        intro v3 W3 h3 g3 e3 _
        obtain ⟨a3, m3, c3, rfl⟩ := h3.form
        have H3 : Hid (Rd W3 (.slice a3 m3 c3) (pageB gen.toNat b)) := hid h3.rd
        have F3 : Hid (Fr F0 W0 W3) := hid (F2.out.grown g3 (fun k hk hlt => by have := N1.out k hk; omega))
        clear h3 g3 e3 H1' H2 F2
        go_wp2_with fail
        refine hK _ _ _ (fun _ h => h) (HS.out _ (F3.out.heap HB.out (fun e => e))) ?_
        clear hK K
        refine plan_step 7 rfl (by kernel_rfl) (fun K hK => ?_)
        go_wp2_with fail
        refine (rseal_c _ _ _ H3.out (by rw [pageB_len, HN.out]; omega)).mono ?_
        rintro e W5 ⟨r5, rfl, h5, f5, n5⟩
        obtain ⟨a5, m5, c5, rfl⟩ := h5.form
        have H5 := hid (show OpenTo w (encP gen b) 1 (.returned (.tuple #[.slice a5 m5 c5, .int .i64 0])) W5 from ⟨_, by rw [HE.out]; rfl, by rw [HE.out]; exact h5, F0.and (F0.and HF.out F3.out) f5, fun k hk => Nat.le_trans (F0.and HF.out F3.out).size (n5 k hk)⟩)
        have hS0 := HS.out _ ((F0.and F3.out f5).heap HB.out (fun e => e))
        clear h5 f5 n5
        go_wp2_with fail
        refine hK _ _ _ (fun _ h => h) hS0 ?_
        clear hK K
        refine plan_take 8 (v := ?_) rfl (by kernel_rfl) (by kernel_rfl) (by kernel_rfl) (fun _ _ _ h => h) (by rfl) hS0 (fun w' hS' => ?_) ?_
        rotate_left
        · (try dsimp only at hS'); go_simp
          try with_reducible rfl
        simp only [Act.put, List.setIfInBounds_toArray, List.set_cons_zero, List.set_cons_succ]
        refine plan_take 9 (v := ?_) rfl (by kernel_rfl) (by kernel_rfl) (by kernel_rfl) (fun _ _ _ h => h) (by rfl) hS0 (fun w' hS' => ?_) ?_
        rotate_left
        · (try dsimp only at hS'); go_simp
          try with_reducible rfl
        simp only [Act.put, List.setIfInBounds_toArray, List.set_cons_zero, List.set_cons_succ]
        clear hS0
        refine plan_done (by kernel_rfl) ?_ _
        go_wp2_with fail
        go_ret2
        exact H5.out

end Go.Proofs.Ytfalaopljodmnaa
