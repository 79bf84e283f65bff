/- vote: the reference's Vote. -/
import Derived.Test.YtfalaopljodmnaaVote5
namespace Go.Proofs.Ytfalaopljodmnaa
open Go.RowKit

theorem rv_inl {x : Nat → List UInt8} {k : Nat} {i : Option Nat} (h : rv x k = .inl i) : ∀ m, rv x (k + m) = .inl i
  | 0 => h
  | m + 1 => by rw [← Nat.add_assoc, rv, rv_inl h m]

theorem winR_inl {x : Nat → List UInt8} {k : Nat} {i : Option Nat} (h : rv x k = .inl i) (hk : k ≤ 3) : winR x = i := by
  have := rv_inl h (3 - k)
  rw [show k + (3 - k) = 3 from by omega] at this
  unfold winR
  rw [this]

theorem like_mono {x : Nat → List UInt8} {k q : Nat} (h : like x k q = true) : ∀ m, like x k (q + m) = true
  | 0 => h
  | m + 1 => by rw [← Nat.add_assoc, like, like_mono h m]; rfl

/-- What is the best one. -/
theorem rv_is (x : Nat → List UInt8) : ∀ k b g, rv x k = .inr (b, g) → b = -1 ∨ ∃ j p, j < k ∧ b = (j : Int) ∧ decP (x j) = some p ∧ g = p.1
  | 0, b, g, h => by cases h; exact .inl rfl
  | k + 1, b, g, h => by
    rw [rv] at h
    cases hk : rv x k with
    | inl i => rw [hk] at h; cases h
    | inr bg =>
      obtain ⟨b', g'⟩ := bg
      rw [hk] at h
      dsimp only at h
      have ih := rv_is x k b' g' hk
      cases hd : decP (x k) with
      | none =>
        rw [hd] at h
        cases h
        rcases ih with e | ⟨j, p, h1, h2⟩
        · exact .inl e
        · exact .inr ⟨j, p, by omega, h2⟩
      | some p =>
        rw [hd] at h
        dsimp only at h
        split at h
        · cases h
        · split at h
          · cases h; exact .inr ⟨k, p, by omega, rfl, hd, rfl⟩
          · cases h
            rcases ih with e | ⟨j, p, h1, h2⟩
            · exact .inl e
            · exact .inr ⟨j, p, by omega, h2⟩

/-- On the way. -/
structure RI (w W : World) (s : Nat → Value) (x : Nat → List UInt8) : Prop where
  fr : Fr F0 w W
  res : W.heap[w.heap.size + 1]? = some (.cells #[.int .i64 0, .slice none 0 0] 59 (0, 0))
  l3 : L3 W w.heap.size s x

theorem RI.keep0 {w W W' : World} {s : Nat → Value} {x : Nat → List UInt8} (h : RI w W s x) (f : Fr F0 W W') : RI w W' s x := ⟨F0.and h.fr f, f.heap h.res (fun e => e), h.l3.keep0 f⟩

theorem rdecp_none (v : Value) (b : List UInt8) (w : World) (hr : Rd w v b) (hl : b.length ≤ 35184372088832) (h : decP b = none) :
    Calls Try.prog 40 #[v] w fun e w' => ∃ u, e = .returned (.tuple #[.agg #[.int .i64 0, u], .int .i64 10]) ∧ Rd w' u [] ∧ Fr F0 w w' :=
  (rdecp_c v b w hr hl).mono fun e w' ⟨u, h1, h2, h3, _⟩ => by rw [h] at h1 h2; exact ⟨u, h1, h2, h3⟩

theorem rdecp_some (v : Value) (b : List UInt8) (p : Int × List UInt8) (w : World) (hr : Rd w v b) (hl : b.length ≤ 35184372088832) (h : decP b = some p) :
    Calls Try.prog 40 #[v] w fun e w' => ∃ u, e = .returned (.tuple #[.agg #[.int .i64 p.1, u], .int .i64 0]) ∧ Rd w' u p.2 ∧ Fr F0 w w' ∧ ∀ q, rblk u = some q → w.heap.size ≤ q ∨ rblk v = some q :=
  (rdecp_c v b w hr hl).mono fun e w' ⟨u, h1, h2, h3, h4⟩ => by rw [h] at h1 h2; exact ⟨u, h1, h2, h3, h4⟩

set_option maxRecDepth 100000 in
set_option maxHeartbeats 3200000 in
theorem rvote_c (a b c : List UInt8) (va vb vc : Value) (w : World) (ha : Rd w va a) (hb : Rd w vb b) (hc : Rd w vc c) (la : a.length ≤ 35184372088832) (lb : b.length ≤ 35184372088832) (lc : c.length ≤ 35184372088832) :
    Calls Try.prog 35 #[.agg #[va, vb, vc]] w fun e w' => VoTo w (tri a b c) (winR (tri a b c)) e w' := by
  obtain ⟨a0, c0, rfl, _⟩ := ha.form
  obtain ⟨a1, c1, rfl, _⟩ := hb.form
  obtain ⟨a2, c2, rfl, _⟩ := hc.form
  have HX : Hid (∀ k, k < 3 → Rd w (svs (.slice a0 a.length c0) (.slice a1 b.length c1) (.slice a2 c.length c2) k) (tri a b c k)) := hid (fun k hk => by
    match k, hk with
    | 0, _ => exact ha
    | 1, _ => exact hb
    | 2, _ => exact hc)
  have HL : Hid (∀ k, (tri a b c k).length ≤ 35184372088832) := hid (fun k => by unfold tri; split; exact la; split; exact lb; exact lc)
  clear ha hb hc la lb lc
  go_enter Try.func35, Try.ntmps35
  go_wp2_with fail
  have HV0 : Hid (RI w ((w.alloc (.cells #[.slice a0 a.length c0, .slice a1 b.length c1, .slice a2 c.length c2] 53)).alloc (.cells #[.int .i64 0, .slice none 0 0] 59))
      (svs (.slice a0 a.length c0) (.slice a1 b.length c1) (.slice a2 c.length c2)) (tri a b c)) := hid
    ⟨((Fr.refl _ _).alloc _).alloc _, heap_alloc_two w _ _, ((Fr.refl F0 _).alloc _).heap (heap_alloc_last w _) (fun e => e), fun k hk => (HX.out k hk).keep0 (((Fr.refl _ _).alloc _).alloc _)⟩
  have HAT : Hid (#[.slice a0 a.length c0, .slice a1 b.length c1, .slice a2 c.length c2] = #[(svs (.slice a0 a.length c0) (.slice a1 b.length c1) (.slice a2 c.length c2)) 0, (svs (.slice a0 a.length c0) (.slice a1 b.length c1) (.slice a2 c.length c2)) 1, (svs (.slice a0 a.length c0) (.slice a1 b.length c1) (.slice a2 c.length c2)) 2]) := hid rfl
  generalize svs (.slice a0 a.length c0) (.slice a1 b.length c1) (.slice a2 c.length c2) = s at *
  generalize hxe : tri a b c = x at *
  have HXE := hid hxe
  clear hxe
  go_loopw [5, 6, 7] (fun b v i wr => ∃ (k : Nat) (bi gi : Int), k ≤ 3 ∧ i = .int .i64 k ∧ b = .int .i64 bi ∧ v = .int .i64 gi ∧ Hid (RI w wr s x ∧ rv x k = .inr (bi, gi))) (fun _ _ i _ => 3 - (intOf i).toNat)
  case atStart => exact ⟨0, -1, 0, by omega, rfl, rfl, rfl, hid ⟨HV0.out, rfl⟩⟩
  case round =>
    clear HV0
    obtain ⟨k, bi, gi, hk, rfl, rfl, rfl, V⟩ := hrel
    by_cases hlt : k < 3
    · have hlt' : (k : Int) < 3 := by omega
      have hck : wr.cell? ⟨w.heap.size, k, none⟩ = some (s k) := V.out.1.l3.cell k hlt
      have HY := hid (V.out.1.l3.rd k hlt)
      have HYB := hid (HX.out k hlt).lt
      have HYL := hid (HL.out k)
      generalize hy : s k = y at hck HY HYB
      have HSY := hid hy
      clear hy
      cases hd : decP (x k) with
      | none =>
        have HD := hid hd
        clear hd
        go_wp2_with fail
        refine (rdecp_none y (x k) _ HY.out HYL.out HD.out).mono ?_
        rintro e w2 ⟨u, rfl, h2, f2⟩
        obtain ⟨ua, uc, rfl, _⟩ := h2.form
        have V2 := hid (V.out.1.keep0 f2)
        have HV2 : Hid (rv x (k + 1) = .inr (bi, gi)) := hid (by rw [rv, V.out.2, HD.out])
        clear h2 f2
        go_wp2_with fail
        exact ⟨⟨k + 1, bi, gi, by omega, by go_num, rfl, rfl, hid ⟨V2.out.keep0 ((Fr.refl _ _).alloc _), HV2.out⟩⟩, by simp [intOf]; omega⟩
      | some p =>
        have HD := hid hd
        clear hd
        obtain ⟨pg, pb⟩ := p
        go_wp2_with fail
        refine (rdecp_some y (x k) (pg, pb) _ HY.out HYL.out HD.out).mono ?_
        rintro e w2 ⟨u, rfl, h2, f2, n2⟩
        dsimp only at h2 ⊢
        obtain ⟨ua, uc, rfl, _⟩ := h2.form
        have V2 := hid (V.out.1.keep0 f2)
        have U2 := hid h2
        have N2 : Hid (∀ q, rblk (.slice ua pb.length uc) = some q → q < w.heap.size ∨ w.heap.size + 1 < q) := hid (fun q hq => by
          rcases n2 q hq with e | e
          · have := lt_of_heap V.out.1.res
            omega
          · exact .inl (HYB.out q e))
        have HQN := hid (show w.heap.size + 1 < w2.heap.size from lt_of_heap V2.out.res)
        clear h2 f2 n2 hck
        go_wp2_with fail
        go_loopw [10] (fun j w3 => ∃ q : Nat, q ≤ 3 ∧ j = .int .i64 q ∧ Hid (like x k q = false ∧ RI w w3 s x ∧ Rd w3 (.slice ua pb.length uc) pb ∧ w3.heap[w2.heap.size]? = some (.cells #[.int .i64 pg, .slice ua pb.length uc] 59 (0, 0)))) (fun j _ => 3 - (intOf j).toNat)
        case atStart => exact ⟨0, by omega, rfl, hid ⟨rfl, V2.out.keep0 ((Fr.refl _ _).alloc _), U2.out.keep0 ((Fr.refl _ _).alloc _), heap_alloc_last _ _⟩⟩
        case round =>
          obtain ⟨q, hq, rfl, V4⟩ := hrel
          by_cases h3 : q < 3
          · have h3' : (q : Int) < 3 := by omega
            by_cases hqk : q = k
            · subst hqk
              have HN : Hid (like x q (q + 1) = false) := hid (by rw [like, V4.out.1]; simp)
              go_wp2_with fail
              go_quiet (fail)
              go_wp2_with fail
              exact ⟨⟨q + 1, by omega, by go_num, hid ⟨HN.out, V4.out.2.1.keep0 ((Fr.refl _ _).drewN _), V4.out.2.2.1.keep0 ((Fr.refl _ _).drewN _), V4.out.2.2.2⟩⟩, by simp [intOf]; omega⟩
            · have hqk1 : decide ((q : Int) = (k : Int)) = false := by simp; omega
              have hqk2 : ((q : Int) == (k : Int)) = false := by rw [beq_eq_false_iff_ne]; omega
              have hqk3 : decide (q = k) = false := by simp [hqk]
              have hqk4 : (q == k) = false := by simp [hqk]
              have hqk5 : ((q : Int) != (k : Int)) = true := by rw [bne_iff_ne]; omega
              have hqk6 : (q != k) = true := by rw [bne_iff_ne]; exact hqk
              have hS0 : Fr F0 wr wr.drew := (Fr.refl _ _).drew
              have hcq : ∀ w' : World, Fr F0 wr w' → w'.cell? ⟨w.heap.size, q, none⟩ = some (s q) := fun w' f => (V4.out.2.1.keep0 f).l3.cell q h3
              have hck : ∀ w' : World, Fr F0 wr w' → w'.cell? ⟨w.heap.size, k, none⟩ = some (s k) := fun w' f => (V4.out.2.1.keep0 f).l3.cell k hlt
              have hvq : ∀ w' : World, Fr F0 wr w' → (convert 25 9 (s q)).run Try.prog w' = .ok (.string ⟨(x q).toArray⟩) w' := fun w' f => run_str w' _ _ ((V4.out.2.1.keep0 f).l3.rd q h3)
              have hvk : ∀ w' : World, Fr F0 wr w' → (convert 25 9 (s k)).run Try.prog w' = .ok (.string ⟨(x k).toArray⟩) w' := fun w' f => run_str w' _ _ ((V4.out.2.1.keep0 f).l3.rd k hlt)
              by_cases he : x q = x k
              · have heb := eqB he
                have HN : Hid (rv x (k + 1) = .inl (some k)) := hid (by
                  have hl : like x k (q + 1) = true := by rw [like]; simp [hqk, he]
                  have hl3 := like_mono hl (3 - (q + 1))
                  rw [show q + 1 + (3 - (q + 1)) = 3 from by omega] at hl3
                  rw [rv, V.out.2, HD.out]
                  dsimp only
                  rw [if_pos hl3])
                have HW : Hid (winR (tri a b c) = some k) := hid (by rw [HXE.out]; exact winR_inl HN.out (by omega))
                have HD : Hid ((some k).bind (fun i => decP (tri a b c i)) = some (pg, pb)) := hid (by rw [HXE.out]; exact HD.out)
                have HMX : Hid (minor (tri a b c) k 3 = minor x k 3) := hid (by rw [HXE.out])
                have HJ3 := hid hlt
                clear he
                go_wp2_with fail
                refine plan_start (fun w' => Fr F0 wr w') (by kernel_rfl) ?_
                refine plan_take 0 (v := ?_) rfl (by kernel_rfl) (by kernel_rfl) (by kernel_rfl) (fun _ _ _ h => h) (by rfl) hS0 (fun w' hS' => ?_) ?_
                rotate_left
                · (try dsimp only at hS'); go_simp
                  try with_reducible rfl
                simp only [Act.put, List.setIfInBounds_toArray, List.set_cons_zero, List.set_cons_succ]
                refine plan_take 1 (v := ?_) rfl (by kernel_rfl) (by kernel_rfl) (by kernel_rfl) (fun _ _ _ h => h) (by rfl) hS0 (fun w' hS' => ?_) ?_
                rotate_left
                · (try dsimp only at hS'); go_simp
                  try with_reducible rfl
                simp only [Act.put, List.setIfInBounds_toArray, List.set_cons_zero, List.set_cons_succ]
                refine plan_take 2 (v := ?_) rfl (by kernel_rfl) (by kernel_rfl) (by kernel_rfl) (fun _ _ _ h => h) (by rfl) hS0 (fun w' hS' => ?_) ?_
                rotate_left
                · (try dsimp only at hS'); go_simp
                  try with_reducible rfl
                simp only [Act.put, List.setIfInBounds_toArray, List.set_cons_zero, List.set_cons_succ]
                refine plan_take 3 (v := ?_) rfl (by kernel_rfl) (by kernel_rfl) (by kernel_rfl) (fun _ _ _ h => h) (by rfl) hS0 (fun w' hS' => ?_) ?_
                rotate_left
                · (try dsimp only at hS'); go_simp
                  try with_reducible rfl
                simp only [Act.put, List.setIfInBounds_toArray, List.set_cons_zero, List.set_cons_succ]
                refine plan_take 4 (v := ?_) rfl (by kernel_rfl) (by kernel_rfl) (by kernel_rfl) (fun _ _ _ h => h) (by rfl) hS0 (fun w' hS' => ?_) ?_
                rotate_left
                · (try dsimp only at hS'); go_simp
                  try with_reducible rfl
                simp only [Act.put, List.setIfInBounds_toArray, List.set_cons_zero, List.set_cons_succ]
                refine plan_take 5 (v := ?_) rfl (by kernel_rfl) (by kernel_rfl) (by kernel_rfl) (fun _ _ _ h => h) (by rfl) hS0 (fun w' hS' => ?_) ?_
                rotate_left
                · (try dsimp only at hS'); go_simp
                  try with_reducible rfl
                simp only [Act.put, List.setIfInBounds_toArray, List.set_cons_zero, List.set_cons_succ]
                refine plan_take 6 (v := ?_) rfl (by kernel_rfl) (by kernel_rfl) (by kernel_rfl) (fun _ _ _ h => h) (by rfl) hS0 (fun w' hS' => ?_) ?_
                rotate_left
                · (try dsimp only at hS'); go_simp
                  try with_reducible rfl
                simp only [Act.put, List.setIfInBounds_toArray, List.set_cons_zero, List.set_cons_succ]
                refine plan_take 7 (v := ?_) rfl (by kernel_rfl) (by kernel_rfl) (by kernel_rfl) (fun _ _ _ h => h) (by rfl) hS0 (fun w' hS' => ?_) ?_
                rotate_left
                · (try dsimp only at hS'); go_simp
                  try with_reducible rfl
                simp only [Act.put, List.setIfInBounds_toArray, List.set_cons_zero, List.set_cons_succ]
                refine plan_take 8 (v := ?_) rfl (by kernel_rfl) (by kernel_rfl) (by kernel_rfl) (fun _ _ _ h => h) (by rfl) hS0 (fun w' hS' => ?_) ?_
                rotate_left
                · (try dsimp only at hS'); go_simp
                  try with_reducible rfl
                simp only [Act.put, List.setIfInBounds_toArray, List.set_cons_zero, List.set_cons_succ]
                refine plan_take 9 (v := ?_) rfl (by kernel_rfl) (by kernel_rfl) (by kernel_rfl) (fun _ _ _ h => h) (by rfl) hS0 (fun w' hS' => ?_) ?_
                rotate_left
                · (try dsimp only at hS'); go_simp
                  try with_reducible rfl
                simp only [Act.put, List.setIfInBounds_toArray, List.set_cons_zero, List.set_cons_succ]
                refine plan_take 10 (v := ?_) rfl (by kernel_rfl) (by kernel_rfl) (by kernel_rfl) (fun _ _ _ h => h) (by rfl) hS0 (fun w' hS' => ?_) ?_
                rotate_left
                · (try dsimp only at hS'); go_simp
                  try with_reducible rfl
                simp only [Act.put, List.setIfInBounds_toArray, List.set_cons_zero, List.set_cons_succ]
                refine plan_take 11 (v := ?_) rfl (by kernel_rfl) (by kernel_rfl) (by kernel_rfl) (fun _ _ _ h => h) (by rfl) hS0 (fun w' hS' => ?_) ?_
                rotate_left
                · (try dsimp only at hS'); go_simp
                  try with_reducible rfl
                simp only [Act.put, List.setIfInBounds_toArray, List.set_cons_zero, List.set_cons_succ]
                refine plan_take 12 (v := ?_) rfl (by kernel_rfl) (by kernel_rfl) (by kernel_rfl) (fun _ _ _ h => h) (by rfl) hS0 (fun w' hS' => ?_) ?_
                rotate_left
                · (try dsimp only at hS'); go_simp
                  try with_reducible rfl
                simp only [Act.put, List.setIfInBounds_toArray, List.set_cons_zero, List.set_cons_succ]
                refine plan_take 13 (v := ?_) rfl (by kernel_rfl) (by kernel_rfl) (by kernel_rfl) (fun _ _ _ h => h) (by rfl) hS0 (fun w' hS' => ?_) ?_
                rotate_left
                · (try dsimp only at hS'); go_simp
                  try with_reducible rfl
                simp only [Act.put, List.setIfInBounds_toArray, List.set_cons_zero, List.set_cons_succ]
                refine plan_done (by kernel_rfl) ?_ _
                clear hS0 hcq hck hvq hvk
                have RR := hid (V4.out.2.1.keep0 ((Fr.refl F0 wr).drew))
                have HU := hid (V4.out.2.2.1.keep0 ((Fr.refl F0 wr).drew))
                have HUN := N2
                have HQ : Hid (wr.drew.heap[w2.heap.size]? = some (.cells #[.int .i64 pg, .slice ua pb.length uc] 59 (0, 0))) := hid V4.out.2.2.2
                have HLB : Hid (wr.drew.heap[w.heap.size]? = some (.cells #[.slice a0 a.length c0, .slice a1 b.length c1, .slice a2 c.length c2] 53 (0, 0))) := hid (by rw [HAT.out]; exact RR.out.l3.at_)
                generalize wr.drew = wx at *
                go_wp2_with fail
                have hS0 : Fr (fun q => q = w.heap.size + 1) wx wx.drew := (Fr.refl _ _).drew
                have hp0 : ∀ w' : World, Fr (fun q => q = w.heap.size + 1) wx w' → w'.cell? ⟨w2.heap.size, 0, none⟩ = some (.int .i64 pg) := fun w' f => by rw [cell_at (f.heap HQ.out (fun e => by have := HQN.out; omega))]; rfl
                have hp1 : ∀ w' : World, Fr (fun q => q = w.heap.size + 1) wx w' → w'.cell? ⟨w2.heap.size, 1, none⟩ = some (.slice ua pb.length uc) := fun w' f => by rw [cell_at (f.heap HQ.out (fun e => by have := HQN.out; omega))]; rfl
                have hl0 : ∀ w' : World, Fr (fun q => q = w.heap.size + 1) wx w' → w'.cell? ⟨w.heap.size, 0, none⟩ = some (.slice a0 a.length c0) := fun w' f => by rw [cell_at (f.heap HLB.out (fun e => by omega))]; rfl
                have hl1 : ∀ w' : World, Fr (fun q => q = w.heap.size + 1) wx w' → w'.cell? ⟨w.heap.size, 1, none⟩ = some (.slice a1 b.length c1) := fun w' f => by rw [cell_at (f.heap HLB.out (fun e => by omega))]; rfl
                have hl2 : ∀ w' : World, Fr (fun q => q = w.heap.size + 1) wx w' → w'.cell? ⟨w.heap.size, 2, none⟩ = some (.slice a2 c.length c2) := fun w' f => by rw [cell_at (f.heap HLB.out (fun e => by omega))]; rfl
                refine plan_start (fun w' => Fr (fun q => q = w.heap.size + 1) wx w') (by kernel_rfl) ?_
                refine plan_take 0 (v := ?_) rfl (by kernel_rfl) (by kernel_rfl) (by kernel_rfl) (fun _ _ _ h => h) (by rfl) hS0 (fun w' hS' => ?_) ?_
                rotate_left
                · (try dsimp only at hS'); go_simp
                  try with_reducible rfl
                simp only [Act.put, List.setIfInBounds_toArray, List.set_cons_zero, List.set_cons_succ]
                refine plan_take 1 (v := ?_) rfl (by kernel_rfl) (by kernel_rfl) (by kernel_rfl) (fun _ _ _ h => h) (by rfl) hS0 (fun w' hS' => ?_) ?_
                rotate_left
                · (try dsimp only at hS'); go_simp
                  try with_reducible rfl
                simp only [Act.put, List.setIfInBounds_toArray, List.set_cons_zero, List.set_cons_succ]
                refine plan_take 2 (v := ?_) rfl (by kernel_rfl) (by kernel_rfl) (by kernel_rfl) (fun _ _ _ h => h) (by rfl) hS0 (fun w' hS' => ?_) ?_
                rotate_left
                · (try dsimp only at hS'); go_simp
                  try with_reducible rfl
                simp only [Act.put, List.setIfInBounds_toArray, List.set_cons_zero, List.set_cons_succ]
                clear hp0 hp1 hl0 hl1 hl2
                refine plan_step 3 rfl (by kernel_rfl) (fun K hK => ?_)
                go_wp2_with fail
                have hc := minority_c s x k HJ3.out wx.drew (fun i hi => (RR.out.l3.rd i hi).keep0 (Fr.refl _ _).drew)
                rw [← HAT.out] at hc
                refine hc.mono ?_
                clear hc
                rintro e w6 ⟨r6, rfl, h6, f6, n6⟩
                obtain ⟨a6, m6, c6, rfl⟩ := h6.form
                have H6 := hid h6
                have F6 := hid (F0.and ((Fr.refl F0 wx).drew) f6)
                have N6 : Hid (New wx (.slice a6 m6 c6)) := hid n6
                have R6 := hid (RR.out.keep0 F6.out)
                have hS0 : Fr (fun q => q = w.heap.size + 1) wx w6 := F6.out.mono (fun _ _ e => e.elim)
                clear h6 f6 n6
                go_wp2_with fail
                refine hK _ _ _ (fun _ h => h) hS0 ?_
                clear hK K
                have q0 : w6.cell? ⟨w.heap.size + 1, 0, none⟩ = some (.int .i64 0) := by rw [cell_at R6.out.res]; rfl
                have q1 : w6.cell? ⟨w.heap.size + 1, 1, none⟩ = some (.slice none 0 0) := by rw [cell_at R6.out.res]; rfl
                have z0 : ∀ i, w6.frozen? ⟨w.heap.size + 1, i, none⟩ = false := frozen_at R6.out.res
                refine plan_step 4 rfl (by kernel_rfl) (fun K hK => ?_)
                go_wp2_with fail
                have ff := ((Fr.refl (fun q => q = w.heap.size + 1) w6).setCell (p := ⟨w.heap.size + 1, 0, none⟩) (fun _ => rfl) (.int .i64 pg)).setCell (p := ⟨w.heap.size + 1, 1, none⟩) (fun _ => rfl) (.slice ua pb.length uc)
                refine hK _ _ _ (fun _ h => h) (hS0.trans ff (fun _ _ e => e)) ?_
                have hS1 := hS0.trans ff (fun _ _ e => e)
                clear hK K
                refine plan_take 5 (v := ?_) rfl (by kernel_rfl) (by kernel_rfl) (by kernel_rfl) (fun _ _ _ h => h) (by rfl) hS1 (fun w' hS' => ?_) ?_
                rotate_left
                · (try dsimp only at hS'); go_simp
                  try with_reducible rfl
                simp only [Act.put, List.setIfInBounds_toArray, List.set_cons_zero, List.set_cons_succ]
                refine plan_take 6 (v := ?_) rfl (by kernel_rfl) (by kernel_rfl) (by kernel_rfl) (fun _ _ _ h => h) (by rfl) hS1 (fun w' hS' => ?_) ?_
                rotate_left
                · (try dsimp only at hS'); go_simp
                  try with_reducible rfl
                simp only [Act.put, List.setIfInBounds_toArray, List.set_cons_zero, List.set_cons_succ]
                refine plan_done (by kernel_rfl) ?_ _
                clear hS0 hS1
                go_wp2_with fail
                exact bodyPost_ret (v := .tuple #[.agg #[.int .i64 pg, .slice ua pb.length uc], .slice a6 m6 c6, .int .i64 0]) (by simp [results, Try.results35, go_sem, q0, q1]) rfl ⟨_, _, by rw [HW.out, HD.out]; rfl, by rw [HW.out, HD.out]; exact (HU.out.keep0 F6.out).keepR ff (fun q hq e => by have := HUN.out q hq; omega),
                  by rw [HW.out]; dsimp only; rw [HMX.out]; exact Rg.keep H6.out.ri ff (fun q hq e => by have := N6.out q (rblk_own hq); have := lt_of_heap RR.out.res; omega), F0.there R6.out.fr ff (fun i e => by omega)⟩
              · have heb := neB he
                have HN : Hid (like x k (q + 1) = false) := hid (by rw [like, V4.out.1]; simp [hqk, he])
                clear he
                go_wp2_with fail
                refine plan_start (fun w' => Fr F0 wr w') (by kernel_rfl) ?_
                refine plan_take 0 (v := ?_) rfl (by kernel_rfl) (by kernel_rfl) (by kernel_rfl) (fun _ _ _ h => h) (by rfl) hS0 (fun w' hS' => ?_) ?_
                rotate_left
                · (try dsimp only at hS'); go_simp
                  try with_reducible rfl
                simp only [Act.put, List.setIfInBounds_toArray, List.set_cons_zero, List.set_cons_succ]
                refine plan_take 1 (v := ?_) rfl (by kernel_rfl) (by kernel_rfl) (by kernel_rfl) (fun _ _ _ h => h) (by rfl) hS0 (fun w' hS' => ?_) ?_
                rotate_left
                · (try dsimp only at hS'); go_simp
                  try with_reducible rfl
                simp only [Act.put, List.setIfInBounds_toArray, List.set_cons_zero, List.set_cons_succ]
                refine plan_take 2 (v := ?_) rfl (by kernel_rfl) (by kernel_rfl) (by kernel_rfl) (fun _ _ _ h => h) (by rfl) hS0 (fun w' hS' => ?_) ?_
                rotate_left
                · (try dsimp only at hS'); go_simp
                  try with_reducible rfl
                simp only [Act.put, List.setIfInBounds_toArray, List.set_cons_zero, List.set_cons_succ]
                refine plan_take 3 (v := ?_) rfl (by kernel_rfl) (by kernel_rfl) (by kernel_rfl) (fun _ _ _ h => h) (by rfl) hS0 (fun w' hS' => ?_) ?_
                rotate_left
                · (try dsimp only at hS'); go_simp
                  try with_reducible rfl
                simp only [Act.put, List.setIfInBounds_toArray, List.set_cons_zero, List.set_cons_succ]
                refine plan_take 4 (v := ?_) rfl (by kernel_rfl) (by kernel_rfl) (by kernel_rfl) (fun _ _ _ h => h) (by rfl) hS0 (fun w' hS' => ?_) ?_
                rotate_left
                · (try dsimp only at hS'); go_simp
                  try with_reducible rfl
                simp only [Act.put, List.setIfInBounds_toArray, List.set_cons_zero, List.set_cons_succ]
                refine plan_take 5 (v := ?_) rfl (by kernel_rfl) (by kernel_rfl) (by kernel_rfl) (fun _ _ _ h => h) (by rfl) hS0 (fun w' hS' => ?_) ?_
                rotate_left
                · (try dsimp only at hS'); go_simp
                  try with_reducible rfl
                simp only [Act.put, List.setIfInBounds_toArray, List.set_cons_zero, List.set_cons_succ]
                refine plan_take 6 (v := ?_) rfl (by kernel_rfl) (by kernel_rfl) (by kernel_rfl) (fun _ _ _ h => h) (by rfl) hS0 (fun w' hS' => ?_) ?_
                rotate_left
                · (try dsimp only at hS'); go_simp
                  try with_reducible rfl
                simp only [Act.put, List.setIfInBounds_toArray, List.set_cons_zero, List.set_cons_succ]
                refine plan_take 7 (v := ?_) rfl (by kernel_rfl) (by kernel_rfl) (by kernel_rfl) (fun _ _ _ h => h) (by rfl) hS0 (fun w' hS' => ?_) ?_
                rotate_left
                · (try dsimp only at hS'); go_simp
                  try with_reducible rfl
                simp only [Act.put, List.setIfInBounds_toArray, List.set_cons_zero, List.set_cons_succ]
                refine plan_take 8 (v := ?_) rfl (by kernel_rfl) (by kernel_rfl) (by kernel_rfl) (fun _ _ _ h => h) (by rfl) hS0 (fun w' hS' => ?_) ?_
                rotate_left
                · (try dsimp only at hS'); go_simp
                  try with_reducible rfl
                simp only [Act.put, List.setIfInBounds_toArray, List.set_cons_zero, List.set_cons_succ]
                refine plan_take 9 (v := ?_) rfl (by kernel_rfl) (by kernel_rfl) (by kernel_rfl) (fun _ _ _ h => h) (by rfl) hS0 (fun w' hS' => ?_) ?_
                rotate_left
                · (try dsimp only at hS'); go_simp
                  try with_reducible rfl
                simp only [Act.put, List.setIfInBounds_toArray, List.set_cons_zero, List.set_cons_succ]
                refine plan_take 10 (v := ?_) rfl (by kernel_rfl) (by kernel_rfl) (by kernel_rfl) (fun _ _ _ h => h) (by rfl) hS0 (fun w' hS' => ?_) ?_
                rotate_left
                · (try dsimp only at hS'); go_simp
                  try with_reducible rfl
                simp only [Act.put, List.setIfInBounds_toArray, List.set_cons_zero, List.set_cons_succ]
                refine plan_take 11 (v := ?_) rfl (by kernel_rfl) (by kernel_rfl) (by kernel_rfl) (fun _ _ _ h => h) (by rfl) hS0 (fun w' hS' => ?_) ?_
                rotate_left
                · (try dsimp only at hS'); go_simp
                  try with_reducible rfl
                simp only [Act.put, List.setIfInBounds_toArray, List.set_cons_zero, List.set_cons_succ]
                refine plan_take 12 (v := ?_) rfl (by kernel_rfl) (by kernel_rfl) (by kernel_rfl) (fun _ _ _ h => h) (by rfl) hS0 (fun w' hS' => ?_) ?_
                rotate_left
                · (try dsimp only at hS'); go_simp
                  try with_reducible rfl
                simp only [Act.put, List.setIfInBounds_toArray, List.set_cons_zero, List.set_cons_succ]
                refine plan_take 13 (v := ?_) rfl (by kernel_rfl) (by kernel_rfl) (by kernel_rfl) (fun _ _ _ h => h) (by rfl) hS0 (fun w' hS' => ?_) ?_
                rotate_left
                · (try dsimp only at hS'); go_simp
                  try with_reducible rfl
                simp only [Act.put, List.setIfInBounds_toArray, List.set_cons_zero, List.set_cons_succ]
                refine plan_done (by kernel_rfl) ?_ _
                clear hS0 hcq hck hvq hvk
                go_wp2_with fail
                exact ⟨⟨q + 1, by omega, by go_num, hid ⟨HN.out, V4.out.2.1.keep0 ((Fr.refl _ _).drew), V4.out.2.2.1.keep0 ((Fr.refl _ _).drew), V4.out.2.2.2⟩⟩, by simp [intOf]; omega⟩
          · obtain rfl : q = 3 := by omega
            have hq0 : wr.cell? ⟨w2.heap.size, 0, none⟩ = some (.int .i64 pg) := by rw [cell_at V4.out.2.2.2]; rfl
            have HV : Hid (rv x (k + 1) = if bi < 0 ∨ gi < pg then .inr ((k : Int), pg) else .inr (bi, gi)) := hid (by
              rw [rv, V.out.2, HD.out]; dsimp only; rw [if_neg (by rw [V4.out.1]; simp)])
            clear h3 hq
            by_cases h1 : bi < 0
            · have HV2 : Hid (rv x (k + 1) = .inr ((k : Int), pg)) := hid (by rw [HV.out, if_pos (.inl h1)])
              go_wp2_with fail
              exact ⟨⟨k + 1, _, _, by omega, by go_num, rfl, rfl, hid ⟨V4.out.2.1, HV2.out⟩⟩, by simp [intOf]; omega⟩
            · by_cases h2 : gi < pg
              · have HV2 : Hid (rv x (k + 1) = .inr ((k : Int), pg)) := hid (by rw [HV.out, if_pos (.inr h2)])
                go_wp2_with fail
                exact ⟨⟨k + 1, _, _, by omega, by go_num, rfl, rfl, hid ⟨V4.out.2.1, HV2.out⟩⟩, by simp [intOf]; omega⟩
              · have HV2 : Hid (rv x (k + 1) = .inr (bi, gi)) := hid (by rw [HV.out, if_neg (fun h => h.elim h1 h2)])
                go_wp2_with fail
                exact ⟨⟨k + 1, _, _, by omega, by go_num, rfl, rfl, hid ⟨V4.out.2.1, HV2.out⟩⟩, by simp [intOf]; omega⟩
    · obtain rfl : k = 3 := by omega
      have hge : ¬ ((3 : Nat) : Int) < 3 := by omega
      clear hlt hk
      have q0 : wr.cell? ⟨w.heap.size + 1, 0, none⟩ = some (.int .i64 0) := by rw [cell_at V.out.1.res]; rfl
      have q1 : wr.cell? ⟨w.heap.size + 1, 1, none⟩ = some (.slice none 0 0) := by rw [cell_at V.out.1.res]; rfl
      have z0 : ∀ i, wr.frozen? ⟨w.heap.size + 1, i, none⟩ = false := frozen_at V.out.1.res
      rcases rv_is x 3 bi gi V.out.2 with hb | ⟨j, ⟨gj, bj⟩, hj3, hb, hj, _⟩
      · subst hb
        have HW : Hid (winR (tri a b c) = none) := hid (by rw [HXE.out]; unfold winR; rw [V.out.2]; rfl)
        go_wp2_with fail
        exact bodyPost_ret (v := .tuple #[.agg #[.int .i64 0, .slice none 0 0], .slice none 0 0, .int .i64 10]) (by simp [results, Try.results35, go_sem, q0, q1]) rfl ⟨_, _, by rw [HW.out]; rfl, by rw [HW.out]; exact Rd.nil _, by rw [HW.out]; exact (Oi.nil _).ri, ((V.out.1.fr.setCell (by simp) _).setCell (by simp) _)⟩
      · subst hb
        have HW : Hid (winR (tri a b c) = some j) := hid (by rw [HXE.out]; unfold winR; rw [V.out.2]; dsimp only; rw [if_neg (by omega)]; simp)
        have HD : Hid ((some j).bind (fun i => decP (tri a b c i)) = some (gj, bj)) := hid (by rw [HXE.out]; exact hj)
        have HMX : Hid (minor (tri a b c) j 3 = minor x j 3) := hid (by rw [HXE.out])
        have HJ := hid hj
        have HJ3 := hid hj3
        have hj3' : (j : Int) < 3 := by omega
        have hd0 : ¬ (j : Int) < 0 := by omega
        have hcj : wr.cell? ⟨w.heap.size, j, none⟩ = some (s j) := V.out.1.l3.cell j hj3
        have HYL := hid (HL.out j)
        have HY := hid (V.out.1.l3.rd j hj3)
        have HYB := hid (HX.out j hj3).lt
        clear hj hj3 q0 q1 z0
        generalize s j = y at hcj HY HYB
        go_wp2_with fail
        refine (rdecp_some y (x j) (gj, bj) _ HY.out HYL.out HJ.out).mono ?_
        rintro e w2 ⟨u, rfl, h2, f2, n2⟩
        dsimp only at h2 ⊢
        obtain ⟨ua, uc, rfl, _⟩ := h2.form
        have V2 := hid (V.out.1.keep0 f2)
        have U2 := hid h2
        have HUN : Hid (∀ q, rblk (.slice ua bj.length uc) = some q → q < w.heap.size ∨ w.heap.size + 1 < q) := hid (fun q hq => by
          rcases n2 q hq with e | e
          · have := lt_of_heap V.out.1.res
            omega
          · exact .inl (HYB.out q e))
        have HQN := hid (show w.heap.size + 1 < w2.heap.size from lt_of_heap V2.out.res)
        clear h2 f2 n2 hcj
        go_wp2_with fail
        have HQ := hid (heap_alloc_last w2 (.cells #[.int .i64 gj, .slice ua bj.length uc] 59))
        have HU := hid (U2.out.keep0 ((Fr.refl F0 w2).alloc (.cells #[.int .i64 gj, .slice ua bj.length uc] 59)))
        have RR := hid (V2.out.keep0 ((Fr.refl F0 w2).alloc (.cells #[.int .i64 gj, .slice ua bj.length uc] 59)))
        have HLB : Hid ((w2.alloc (.cells #[.int .i64 gj, .slice ua bj.length uc] 59)).heap[w.heap.size]? = some (.cells #[.slice a0 a.length c0, .slice a1 b.length c1, .slice a2 c.length c2] 53 (0, 0))) := hid (by rw [HAT.out]; exact RR.out.l3.at_)
        generalize w2.alloc (.cells #[.int .i64 gj, .slice ua bj.length uc] 59) = wx at *
        have hS0 : Fr (fun q => q = w.heap.size + 1) wx wx.drew := (Fr.refl _ _).drew
        have hp0 : ∀ w' : World, Fr (fun q => q = w.heap.size + 1) wx w' → w'.cell? ⟨w2.heap.size, 0, none⟩ = some (.int .i64 gj) := fun w' f => by rw [cell_at (f.heap HQ.out (fun e => by have := HQN.out; omega))]; rfl
        have hp1 : ∀ w' : World, Fr (fun q => q = w.heap.size + 1) wx w' → w'.cell? ⟨w2.heap.size, 1, none⟩ = some (.slice ua bj.length uc) := fun w' f => by rw [cell_at (f.heap HQ.out (fun e => by have := HQN.out; omega))]; rfl
        have hl0 : ∀ w' : World, Fr (fun q => q = w.heap.size + 1) wx w' → w'.cell? ⟨w.heap.size, 0, none⟩ = some (.slice a0 a.length c0) := fun w' f => by rw [cell_at (f.heap HLB.out (fun e => by omega))]; rfl
        have hl1 : ∀ w' : World, Fr (fun q => q = w.heap.size + 1) wx w' → w'.cell? ⟨w.heap.size, 1, none⟩ = some (.slice a1 b.length c1) := fun w' f => by rw [cell_at (f.heap HLB.out (fun e => by omega))]; rfl
        have hl2 : ∀ w' : World, Fr (fun q => q = w.heap.size + 1) wx w' → w'.cell? ⟨w.heap.size, 2, none⟩ = some (.slice a2 c.length c2) := fun w' f => by rw [cell_at (f.heap HLB.out (fun e => by omega))]; rfl
        refine plan_start (fun w' => Fr (fun q => q = w.heap.size + 1) wx w') (by kernel_rfl) ?_
        refine plan_take 0 (v := ?_) rfl (by kernel_rfl) (by kernel_rfl) (by kernel_rfl) (fun _ _ _ h => h) (by rfl) hS0 (fun w' hS' => ?_) ?_
        rotate_left
        · (try dsimp only at hS'); go_simp
          try with_reducible rfl
        simp only [Act.put, List.setIfInBounds_toArray, List.set_cons_zero, List.set_cons_succ]
        refine plan_take 1 (v := ?_) rfl (by kernel_rfl) (by kernel_rfl) (by kernel_rfl) (fun _ _ _ h => h) (by rfl) hS0 (fun w' hS' => ?_) ?_
        rotate_left
        · (try dsimp only at hS'); go_simp
          try with_reducible rfl
        simp only [Act.put, List.setIfInBounds_toArray, List.set_cons_zero, List.set_cons_succ]
        refine plan_take 2 (v := ?_) rfl (by kernel_rfl) (by kernel_rfl) (by kernel_rfl) (fun _ _ _ h => h) (by rfl) hS0 (fun w' hS' => ?_) ?_
        rotate_left
        · (try dsimp only at hS'); go_simp
          try with_reducible rfl
        simp only [Act.put, List.setIfInBounds_toArray, List.set_cons_zero, List.set_cons_succ]
        clear hp0 hp1 hl0 hl1 hl2
        refine plan_step 3 rfl (by kernel_rfl) (fun K hK => ?_)
        go_wp2_with fail
        have hc := minority_c s x j HJ3.out wx.drew (fun i hi => (RR.out.l3.rd i hi).keep0 (Fr.refl _ _).drew)
        rw [← HAT.out] at hc
        refine hc.mono ?_
        clear hc
        rintro e w6 ⟨r6, rfl, h6, f6, n6⟩
        obtain ⟨a6, m6, c6, rfl⟩ := h6.form
        have H6 := hid h6
        have F6 := hid (F0.and ((Fr.refl F0 wx).drew) f6)
        have N6 : Hid (New wx (.slice a6 m6 c6)) := hid n6
        have R6 := hid (RR.out.keep0 F6.out)
        have hS0 : Fr (fun q => q = w.heap.size + 1) wx w6 := F6.out.mono (fun _ _ e => e.elim)
        clear h6 f6 n6
        go_wp2_with fail
        refine hK _ _ _ (fun _ h => h) hS0 ?_
        clear hK K
        have q0 : w6.cell? ⟨w.heap.size + 1, 0, none⟩ = some (.int .i64 0) := by rw [cell_at R6.out.res]; rfl
        have q1 : w6.cell? ⟨w.heap.size + 1, 1, none⟩ = some (.slice none 0 0) := by rw [cell_at R6.out.res]; rfl
        have z0 : ∀ i, w6.frozen? ⟨w.heap.size + 1, i, none⟩ = false := frozen_at R6.out.res
        refine plan_step 4 rfl (by kernel_rfl) (fun K hK => ?_)
        go_wp2_with fail
        have ff := ((Fr.refl (fun q => q = w.heap.size + 1) w6).setCell (p := ⟨w.heap.size + 1, 0, none⟩) (fun _ => rfl) (.int .i64 gj)).setCell (p := ⟨w.heap.size + 1, 1, none⟩) (fun _ => rfl) (.slice ua bj.length uc)
        refine hK _ _ _ (fun _ h => h) (hS0.trans ff (fun _ _ e => e)) ?_
        have hS1 := hS0.trans ff (fun _ _ e => e)
        clear hK K
        refine plan_take 5 (v := ?_) rfl (by kernel_rfl) (by kernel_rfl) (by kernel_rfl) (fun _ _ _ h => h) (by rfl) hS1 (fun w' hS' => ?_) ?_
        rotate_left
        · (try dsimp only at hS'); go_simp
          try with_reducible rfl
        simp only [Act.put, List.setIfInBounds_toArray, List.set_cons_zero, List.set_cons_succ]
        refine plan_take 6 (v := ?_) rfl (by kernel_rfl) (by kernel_rfl) (by kernel_rfl) (fun _ _ _ h => h) (by rfl) hS1 (fun w' hS' => ?_) ?_
        rotate_left
        · (try dsimp only at hS'); go_simp
          try with_reducible rfl
        simp only [Act.put, List.setIfInBounds_toArray, List.set_cons_zero, List.set_cons_succ]
        refine plan_done (by kernel_rfl) ?_ _
        clear hS0 hS1
        go_wp2_with fail
        exact bodyPost_ret (v := .tuple #[.agg #[.int .i64 gj, .slice ua bj.length uc], .slice a6 m6 c6, .int .i64 0]) (by simp [results, Try.results35, go_sem, q0, q1]) rfl ⟨_, _, by rw [HW.out, HD.out]; rfl, by rw [HW.out, HD.out]; exact (HU.out.keep0 F6.out).keepR ff (fun q hq e => by have := HUN.out q hq; omega),
          by rw [HW.out]; dsimp only; rw [HMX.out]; exact Rg.keep H6.out.ri ff (fun q hq e => by have := N6.out q (rblk_own hq); have := lt_of_heap RR.out.res; omega), F0.there R6.out.fr ff (fun i e => by omega)⟩


end Go.Proofs.Ytfalaopljodmnaa
