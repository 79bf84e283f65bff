/- vote: Same, Vote. -/
import Derived.Test.YtfalaopljodmnaaVote4
namespace Go.Proofs.Ytfalaopljodmnaa
open Go.RowKit

set_option maxRecDepth 100000 in
set_option maxHeartbeats 800000 in
theorem same_c (g1 g2 : Int) (v1 v2 : Value) (b1 b2 : List UInt8) (w : World) (h1 : Rd w v1 b1) (h2 : Rd w v2 b2) :
    Calls Try.prog 41 #[.agg #[.int .i64 g1, v1], .agg #[.int .i64 g2, v2]] w fun e w' => e = .returned (.bool (decide (g1 = g2) && (b1 == b2))) ∧ Fr F0 w w' := by
  obtain ⟨a1, c1, rfl, _⟩ := h1.form
  obtain ⟨a2, c2, rfl, _⟩ := h2.form
  have H1 := hid h1
  have H2 := hid h2
  clear h1 h2
  by_cases hg : g1 = g2
  · subst hg
    go_enter Try.func41, Try.ntmps41
    go_wp2_with fail
    refine (beq_c _ _ b1 b2 _ (H1.out.keep0 (((Fr.refl _ _).alloc _).alloc _)) (H2.out.keep0 (((Fr.refl _ _).alloc _).alloc _))).mono ?_
    rintro e w1 ⟨rfl, rfl⟩
    go_wp2_with fail
    go_ret
    exact ⟨ret_bool (by simp), ((Fr.refl _ _).alloc _).alloc _⟩
  · have hg' : decide (g1 = g2) = false := by simp [hg]
    go_enter Try.func41, Try.ntmps41
    go_wp2_with fail
    go_ret
    exact ⟨ret_bool (by simp [hg']), ((Fr.refl _ _).alloc _).alloc _⟩

def svs (a b c : Value) : Nat → Value
  | 0 => a
  | 1 => b
  | _ => c

theorem info3 : (Try.prog.info? 53).map (·.size) = some 3 := by kernel_rfl

theorem run_index3 (s : Nat → Value) (w : World) : ∀ k : Nat, k < 3 → (Instr.index 53 (.agg #[s 0, s 1, s 2]) (.int .i64 k)).run Try.prog w = .ok (s k) w
  | 0, _ => by kernel_rfl
  | 1, _ => by kernel_rfl
  | 2, _ => by kernel_rfl
  | k + 3, h => by omega

/-- What is told of a vote: of the copies x, copy o counts. -/
def VoTo (w : World) (x : Nat → List UInt8) (o : Option Nat) (e : Ending) (w' : World) : Prop :=
  ∃ v mv, e = .returned (.tuple #[.agg #[.int .i64 (pgGen (o.bind fun i => decP (x i))), v], mv, .int .i64 (if o.isSome then 0 else 10)]) ∧ Rd w' v (pgBody (o.bind fun i => decP (x i))) ∧
    Ri w' mv (match o with | none => [] | some i => minor x i 3) ∧ Fr F0 w w'

/-- On the way: the result's cells, the copies, the pages of the first k. -/
structure VI (w W : World) (s : Nat → Value) (x : Nat → List UInt8) (k : Nat) : Prop where
  fr : Fr F0 w W
  res : W.heap[w.heap.size]? = some (.cells #[.int .i64 0, .slice none 0 0] 56 (0, 0))
  l3 : L3 W (w.heap.size + 1) s x
  pg : ∃ A : Array Value, W.heap[w.heap.size + 2]? = some (.cells A 110 (0, 0)) ∧ A.size = 6 ∧ ∀ i p, i < k → decP (x i) = some p → A[i * 2]? = some (.int .i64 p.1) ∧ ∃ v, A[i * 2 + 1]? = some v ∧ Rd W v p.2 ∧ (∀ q, rblk v = some q → q < w.heap.size ∨ w.heap.size + 3 ≤ q)

theorem size_setCell (w : World) (p : Addr) (v : Value) : (w.setCell p v).heap.size = w.heap.size := by simp [World.setCell]

theorem VI.keep0 {w W W' : World} {s : Nat → Value} {x : Nat → List UInt8} {k : Nat} (h : VI w W s x k) (f : Fr F0 W W') : VI w W' s x k where
  fr := F0.and h.fr f
  res := f.heap h.res (fun e => e)
  l3 := h.l3.keep0 f
  pg := let ⟨A, h1, h2, h3⟩ := h.pg
    ⟨A, f.heap h1 (fun e => e), h2, fun i p hi hp => let ⟨g1, v, g2, g3, g4⟩ := h3 i p hi hp; ⟨g1, v, g2, g3.keep0 f, g4⟩⟩

theorem VI.skip {w W : World} {s : Nat → Value} {x : Nat → List UInt8} {k : Nat} (h : VI w W s x k) (hd : decP (x k) = none) : VI w W s x (k + 1) where
  fr := h.fr
  res := h.res
  l3 := h.l3
  pg := let ⟨A, h1, h2, h3⟩ := h.pg
    ⟨A, h1, h2, fun i p hi hp => h3 i p (by rcases Nat.lt_or_ge i k with e | e; exact e; (obtain rfl : i = k := by omega); rw [hd] at hp; cases hp) hp⟩

theorem VI.put {w W W' : World} {s : Nat → Value} {x : Nat → List UInt8} {k : Nat} {A : Array Value} {p : Int × List UInt8} {v : Value} (h : VI w W s x k) (hA : W.heap[w.heap.size + 2]? = some (.cells A 110 (0, 0))) (hk : k < 3)
    (hd : decP (x k) = some p) (hv : Rd W v p.2) (hb : ∀ q, rblk v = some q → q < w.heap.size ∨ w.heap.size + 3 ≤ q)
    (g : W'.heap[w.heap.size + 2]? = some (.cells ((A.setIfInBounds (k * 2) (.int .i64 p.1)).setIfInBounds (k * 2 + 1) v) 110 (0, 0))) (f : Fr (fun q => q = w.heap.size + 2) W W') (hx : ∀ j, j < 3 → Rd w (s j) (x j)) : VI w W' s x (k + 1) where
  fr := F0.there h.fr f (fun i e => by omega)
  res := f.heap h.res (fun e => by omega)
  l3 := ⟨f.heap h.l3.at_ (fun e => by omega), fun j hj => ((hx j hj).keep0 h.fr).keepR f (fun q hq e => by have := (hx j hj).lt q hq; omega)⟩
  pg := by
    obtain ⟨A', h1, h2, h3⟩ := h.pg
    rw [hA] at h1
    obtain rfl : A = A' := by injection h1 with h1; injection h1
    refine ⟨_, g, by simp [h2], fun i q hi hq => ?_⟩
    rcases Nat.lt_or_ge i k with e | e
    · obtain ⟨g1, u, g2, g3, g4⟩ := h3 i q e hq
      refine ⟨?_, u, ?_, g3.keepR f (fun r hr e' => by have := g4 r hr; omega), g4⟩
      · rw [Array.getElem?_setIfInBounds_ne (by omega), Array.getElem?_setIfInBounds_ne (by omega)]; exact g1
      · rw [Array.getElem?_setIfInBounds_ne (by omega), Array.getElem?_setIfInBounds_ne (by omega)]; exact g2
    · obtain rfl : i = k := by omega
      rw [hd] at hq
      cases hq
      refine ⟨?_, v, ?_, hv.keepR f (fun r hr e' => by have := hb r hr; omega), hb⟩
      · rw [Array.getElem?_setIfInBounds_ne (by omega), Array.getElem?_setIfInBounds_self_of_lt (by omega)]
      · rw [Array.getElem?_setIfInBounds_self_of_lt (by simp; omega)]

theorem vdec_none (v : Value) (b : List UInt8) (w : World) (hr : Rd w v b) (hl : b.length ≤ 35184372088832) (h : decP b = none) :
    Calls Try.prog 39 #[v] w fun e w' => ∃ u, e = .returned (.tuple #[.agg #[.int .i64 0, u], .int .i64 10]) ∧ Rd w' u [] ∧ Fr F0 w w' :=
  (vdec_c v b w hr hl).mono fun e w' ⟨u, h1, h2, h3, _⟩ => by rw [h] at h1 h2; exact ⟨u, h1, h2, h3⟩

theorem vdec_some (v : Value) (b : List UInt8) (p : Int × List UInt8) (w : World) (hr : Rd w v b) (hl : b.length ≤ 35184372088832) (h : decP b = some p) :
    Calls Try.prog 39 #[v] w fun e w' => ∃ u, e = .returned (.tuple #[.agg #[.int .i64 p.1, u], .int .i64 0]) ∧ Rd w' u p.2 ∧ Fr F0 w w' ∧ ∀ q, rblk u = some q → w.heap.size ≤ q ∨ rblk v = some q :=
  (vdec_c v b w hr hl).mono fun e w' ⟨u, h1, h2, h3, h4⟩ => by rw [h] at h1 h2; exact ⟨u, h1, h2, h3, h4⟩

set_option maxRecDepth 100000 in
set_option maxHeartbeats 3200000 in
theorem vote_c (a b c : List UInt8) (va vb vc : Value) (w : World) (ha : Rd w va a) (hb : Rd w vb b) (hc : Rd w vc c) (la : a.length ≤ 35184372088832) (lb : b.length ≤ 35184372088832) (lc : c.length ≤ 35184372088832) :
    Calls Try.prog 34 #[va, vb, vc] w fun e w' => VoTo w (tri a b c) (winP (tri a b c)) e w' := by
  obtain ⟨a0, c0, rfl, _⟩ := ha.form
  obtain ⟨a1, c1, rfl, _⟩ := hb.form
  obtain ⟨a2, c2, rfl, _⟩ := hc.form
  have HX : Hid (∀ k, k < 3 → Rd w (svs (.slice a0 a.length c0) (.slice a1 b.length c1) (.slice a2 c.length c2) k) (tri a b c k)) := hid (fun k hk => by
    match k, hk with
    | 0, _ => exact ha
    | 1, _ => exact hb
    | 2, _ => exact hc)
  have HL : Hid (∀ k, (tri a b c k).length ≤ 35184372088832) := hid (fun k => by unfold tri; split; exact la; split; exact lb; exact lc)
  have HI3 := hid info3
  clear ha hb hc la lb lc
  go_enter Try.func34, Try.ntmps34
  go_wp2_with (first | (refine wpList_storeRow rfl 53 (.tmp 9) (.tmp 25) rfl (w.heap.size + 1) #[.slice none 0 0, .slice none 0 0, .slice none 0 0] #[.slice a0 a.length c0, .slice a1 b.length c1, .slice a2 c.length c2] 53 (heap_alloc_two w _ _) rfl rfl rfl HI3.out rfl ?_) | (refine wpList_loadRow rfl 53 (.tmp 9) rfl (w.heap.size + 1) rfl 53 #[.slice a0 a.length c0, .slice a1 b.length c1, .slice a2 c.length c2] (0, 0) _ ?ld Try.underlying53 rfl HI3.out ?_))
  case ld => exact ((Fr.refl F0 _).alloc _).heap (heap_alloc_two w _ _) (fun e => e)
  have HV0 : Hid (VI w (((w.alloc (.cells #[.int .i64 0, .slice none 0 0] 56)).alloc (.cells #[.slice a0 a.length c0, .slice a1 b.length c1, .slice a2 c.length c2] 53)).alloc (.cells #[.int .i64 0, .slice none 0 0, .int .i64 0, .slice none 0 0, .int .i64 0, .slice none 0 0] 110))
      (svs (.slice a0 a.length c0) (.slice a1 b.length c1) (.slice a2 c.length c2)) (tri a b c) 0) := hid {
    fr := (((Fr.refl _ _).alloc _).alloc _).alloc _
    res := (((Fr.refl F0 _).alloc _).alloc _).heap (heap_alloc_last w _) (fun e => e)
    l3 := ⟨((Fr.refl F0 _).alloc _).heap (heap_alloc_two w _ _) (fun e => e), fun k hk => (HX.out k hk).keep0 ((((Fr.refl _ _).alloc _).alloc _).alloc _)⟩
    pg := ⟨_, by have := heap_alloc_two (w.alloc (.cells #[.int .i64 0, .slice none 0 0] 56)) (.cells #[.slice a0 a.length c0, .slice a1 b.length c1, .slice a2 c.length c2] 53) (.cells #[.int .i64 0, .slice none 0 0, .int .i64 0, .slice none 0 0, .int .i64 0, .slice none 0 0] 110); rw [heap_size_alloc'] at this; exact this, rfl, fun i p hi => absurd hi (by omega)⟩ }
  have HID : Hid (∀ (w : World) (k : Nat), k < 3 → (Instr.index 53 (.agg #[.slice a0 a.length c0, .slice a1 b.length c1, .slice a2 c.length c2]) (.int .i64 k)).run Try.prog w = .ok ((svs (.slice a0 a.length c0) (.slice a1 b.length c1) (.slice a2 c.length c2)) k) w) := hid (fun w k hk => run_index3 (svs (.slice a0 a.length c0) (.slice a1 b.length c1) (.slice a2 c.length c2)) w k hk)
  have HAT : Hid (#[.slice a0 a.length c0, .slice a1 b.length c1, .slice a2 c.length c2] = #[(svs (.slice a0 a.length c0) (.slice a1 b.length c1) (.slice a2 c.length c2)) 0, (svs (.slice a0 a.length c0) (.slice a1 b.length c1) (.slice a2 c.length c2)) 1, (svs (.slice a0 a.length c0) (.slice a1 b.length c1) (.slice a2 c.length c2)) 2]) := hid rfl
  generalize svs (.slice a0 a.length c0) (.slice a1 b.length c1) (.slice a2 c.length c2) = s at *
  generalize hxe : tri a b c = x at *
  have HXE := hid hxe
  clear hxe
  go_loopw [10, 11, 27] (fun b v i wr => ∃ k : Nat, k ≤ 3 ∧ i = .int .i64 k ∧ b = .int .i64 (bv x k).1 ∧ v = .int .i64 (bv x k).2 ∧ Hid (VI w wr s x k)) (fun _ _ i _ => 3 - (intOf i).toNat)
  case atStart => exact ⟨0, by omega, rfl, rfl, rfl, HV0⟩
  case round =>
    clear HV0
    obtain ⟨k, hk, rfl, rfl, rfl, V⟩ := hrel
    obtain ⟨⟨bi, vo⟩, hbv⟩ : ∃ p, bv x k = p := ⟨_, rfl⟩
    have HBV := hid hbv
    have HBI := hid (bv_is x k)
    rw [hbv]
    rw [hbv] at HBI
    clear hbv
    dsimp only
    by_cases hlt : k < 3
    · have hlt' : (k : Int) < 3 := by omega
      have hidx := fun w => HID.out w k hlt
      have HY := hid (V.out.l3.rd k hlt)
      have HYB := hid (HX.out k hlt).lt
      have HYL := hid (HL.out k)
      generalize hy : s k = y at *
      have HSY := hid hy
      clear hy
      cases hd : decP (x k) with
      | none =>
        have HD := hid hd
        clear hd
        go_wp2_with fail
        refine (vdec_none y (x k) _ HY.out HYL.out HD.out).mono ?_
        rintro e w2 ⟨u, rfl, h2, f2⟩
        obtain ⟨ua, uc, rfl, _⟩ := h2.form
        have V2 := hid ((V.out.keep0 f2).skip HD.out)
        clear h2 f2
        go_wp2_with fail
        exact ⟨⟨k + 1, by omega, by go_num, by rw [bv_none HD.out, HBV.out], by rw [bv_none HD.out, HBV.out], hid (V2.out.keep0 ((Fr.refl _ _).alloc _))⟩, by simp [intOf]; omega⟩
      | some p =>
        have HD := hid hd
        clear hd
        obtain ⟨pg, pb⟩ := p
        go_wp2_with fail
        refine (vdec_some y (x k) (pg, pb) _ HY.out HYL.out HD.out).mono ?_
        rintro e w2 ⟨u, rfl, h2, f2, n2⟩
        dsimp only at h2 ⊢
        obtain ⟨ua, uc, rfl, _⟩ := h2.form
        have V2 := hid (V.out.keep0 f2)
        have U2 := hid h2
        have N2 : Hid (∀ q, rblk (.slice ua pb.length uc) = some q → q < w.heap.size ∨ w.heap.size + 3 ≤ q) := hid (fun q hq => by
          rcases n2 q hq with e | e
          · have := V.out.pg
            obtain ⟨A, hA, _⟩ := this
            have := lt_of_heap hA
            omega
          · exact .inl (HYB.out q e))
        clear h2 f2 n2 hidx
        obtain ⟨A, hA, hAs, _⟩ := V2.out.pg
        have z1 : w2.cell? ⟨w.heap.size + 2, k * 2, none⟩ = some A[k * 2] := by rw [cell_at hA]; exact Array.getElem?_eq_getElem (by omega)
        have z2 : w2.cell? ⟨w.heap.size + 2, k * 2 + 1, none⟩ = some A[k * 2 + 1] := by rw [cell_at hA]; exact Array.getElem?_eq_getElem (by omega)
        have zf : ∀ i, w2.frozen? ⟨w.heap.size + 2, i, none⟩ = false := frozen_at hA
        generalize A[k * 2] = y1 at z1
        generalize A[k * 2 + 1] = y2 at z2
        have HA := hid hA
        have hp2 := lt_of_heap hA
        have ff := fun (i j : Nat) (u v : Value) (o : Obj) => ((((Fr.refl (fun q => q = w.heap.size + 2) w2).setCell (p := ⟨w.heap.size + 2, i, none⟩) (fun _ => rfl) u).setCell (p := ⟨w.heap.size + 2, j, none⟩) (fun _ => rfl) v).alloc o)
        have HFF := hid ff
        clear hA hAs ff
        go_wp2_with (first | (refine wpList_loadRow rfl 53 (.tmp 9) rfl (w.heap.size + 1) rfl 53 #[.slice a0 a.length c0, .slice a1 b.length c1, .slice a2 c.length c2] (0, 0) _ ?ld2 Try.underlying53 rfl HI3.out ?_))
        case ld2 =>
          rw [HAT.out]
          exact (HFF.out _ _ _ _ _).heap V2.out.l3.at_ (by omega)
        have V3 : Hid (VI w (((w2.setCell ⟨w.heap.size + 1 + 1, k * 2, none⟩ (.int .i64 pg)).setCell ⟨w.heap.size + 1 + 1, k * 2 + 1, none⟩ (.slice ua pb.length uc)).alloc (.cells #[.int .i64 pg, .slice ua pb.length uc] 56)) s x (k + 1) ∧
            (((w2.setCell ⟨w.heap.size + 1 + 1, k * 2, none⟩ (.int .i64 pg)).setCell ⟨w.heap.size + 1 + 1, k * 2 + 1, none⟩ (.slice ua pb.length uc)).alloc (.cells #[.int .i64 pg, .slice ua pb.length uc] 56)).heap[w2.heap.size]? = some (.cells #[.int .i64 pg, .slice ua pb.length uc] 56 (0, 0))) :=
          hid ⟨VI.put V2.out HA.out hlt HD.out U2.out N2.out (((Fr.refl F0 _).alloc _).heap (heap_setCell (heap_setCell HA.out _ _) _ _) (fun e => e)) (HFF.out _ _ _ _ _) HX.out, by
            have := heap_alloc_last ((w2.setCell ⟨w.heap.size + 1 + 1, k * 2, none⟩ (.int .i64 pg)).setCell ⟨w.heap.size + 1 + 1, k * 2 + 1, none⟩ (.slice ua pb.length uc)) (.cells #[.int .i64 pg, .slice ua pb.length uc] 56)
            rwa [size_setCell, size_setCell] at this⟩
        clear z1 z2 zf hp2
        go_loopw [17, 42] (fun n j wr3 => ∃ q : Nat, q ≤ 3 ∧ j = .int .i64 q ∧ n = .int .i64 (cntN x k q) ∧ Hid (VI w wr3 s x (k + 1) ∧ wr3.heap[w2.heap.size]? = some (.cells #[.int .i64 pg, .slice ua pb.length uc] 56 (0, 0)))) (fun _ j _ => 3 - (intOf j).toNat)
        case atStart => exact ⟨0, by omega, rfl, rfl, V3⟩
        case round =>
          clear V3
          obtain ⟨q, hq, rfl, rfl, V4⟩ := hrel
          by_cases h3 : q < 3
          · have h3' : (q : Int) < 3 := by omega
            have hidx := fun w => HID.out w q h3
            have HZ := hid ((HX.out q h3).keep0 V4.out.1.fr)
            have HY4 := hid ((HX.out k hlt).keep0 V4.out.1.fr)
            rw [HSY.out] at HY4
            generalize s q = z at hidx HZ
            have hc := cntN_le x k q
            by_cases he : x k = x q
            · have heb := eqB he
              have HN : Hid (cntN x k (q + 1) = min (cntN x k q + 1) 2) := hid (by rw [cntN, if_pos he])
              clear he
              generalize cntN x k q = cn at *
              go_wp2_with fail
              refine (beq_c y z (x k) (x q) _ HY4.out HZ.out).mono ?_
              rintro e w5 ⟨rfl, rfl⟩
              go_wp2_with fail
              all_goals exact ⟨⟨q + 1, by omega, by go_num, by rw [HN.out]; go_num, V4⟩, by simp [intOf]; omega⟩
            · have heb := neB he
              have HN : Hid (cntN x k (q + 1) = cntN x k q) := hid (by rw [cntN, if_neg he])
              clear he
              generalize cntN x k q = cn at *
              go_wp2_with fail
              refine (beq_c y z (x k) (x q) _ HY4.out HZ.out).mono ?_
              rintro e w5 ⟨rfl, rfl⟩
              go_wp2_with fail
              exact ⟨⟨q + 1, by omega, by go_num, by rw [HN.out], V4⟩, by simp [intOf]; omega⟩
          · obtain rfl : q = 3 := by omega
            have hu := bv_some (x := x) HD.out
            rw [HBV.out] at hu
            dsimp only at hu
            generalize cntN x k 3 = cn at *
            have HU := hid hu
            have hq0 : wr.cell? ⟨w2.heap.size, 0, none⟩ = some (.int .i64 pg) := by rw [cell_at V4.out.2]; rfl
            clear hu h3 hq
            rcases HBI.out with hb | ⟨j, ⟨gj, bj⟩, hjk, hb, hj⟩
            · subst hb
              have HU2 : Hid (bv x (k + 1) = ((k : Int), cn)) := hid (by rw [HU.out, if_pos (.inl (by omega))])
              go_wp2_with fail
              go_quiet (fail)
              go_wp2_with fail
              exact ⟨⟨k + 1, by omega, by go_num, by rw [HU2.out], by rw [HU2.out], hid (V4.out.1.keep0 ((Fr.refl _ _).drewN _))⟩, by simp [intOf]; omega⟩
            · subst hb
              have hj0 : wr.cell? ⟨w.heap.size + 2, j * 2, none⟩ = some (.int .i64 gj) := by
                obtain ⟨A', hA', _, hp'⟩ := V4.out.1.pg
                rw [cell_at hA']
                exact (hp' j _ (by omega) hj).1
              have HG : Hid (pgGen (decP (x ((j : Int)).toNat)) = gj) := hid (by rw [Int.toNat_natCast, hj]; rfl)
              clear hj
              have hj3 : (j : Int) < 3 := by omega
              have hd0 : decide ((j : Int) < 0) = false := by simp
              by_cases hvc : vo < cn
              · have HU2 : Hid (bv x (k + 1) = ((k : Int), cn)) := hid (by rw [HU.out, if_pos (.inr (.inl hvc))])
                have hd1 : decide (vo < cn) = true := by simp [hvc]
                go_wp2_with fail
                go_quiet (fail)
                go_wp2_with fail
                exact ⟨⟨k + 1, by omega, by go_num, by rw [HU2.out], by rw [HU2.out], hid (V4.out.1.keep0 ((Fr.refl _ _).drewN _))⟩, by simp [intOf]; omega⟩
              · have hd1 : decide (vo < cn) = false := by simp [hvc]
                by_cases hvq : cn = vo
                · subst hvq
                  by_cases hgg : gj < pg
                  · have HU2 : Hid (bv x (k + 1) = ((k : Int), cn)) := hid (by rw [HU.out, if_pos (.inr (.inr ⟨rfl, by rw [HG.out]; exact hgg⟩))])
                    have hd2 : decide (gj < pg) = true := by simp [hgg]
                    go_wp2_with fail
                    go_quiet (fail)
                    go_wp2_with fail
                    exact ⟨⟨k + 1, by omega, by go_num, by rw [HU2.out], by rw [HU2.out], hid (V4.out.1.keep0 ((Fr.refl _ _).drewN _))⟩, by simp [intOf]; omega⟩
                  · have HU2 : Hid (bv x (k + 1) = ((j : Int), cn)) := hid (by rw [HU.out, if_neg (fun h => by rcases h with h | h | h; omega; omega; exact hgg (by have := h.2; rwa [HG.out] at this))])
                    have hd2 : decide (gj < pg) = false := by simp [hgg]
                    go_wp2_with fail
                    go_quiet (fail)
                    go_wp2_with fail
                    exact ⟨⟨k + 1, by omega, by go_num, by rw [HU2.out], by rw [HU2.out], hid (V4.out.1.keep0 ((Fr.refl _ _).drewN _))⟩, by simp [intOf]; omega⟩
                · have HU2 : Hid (bv x (k + 1) = ((j : Int), vo)) := hid (by rw [HU.out, if_neg (fun h => by rcases h with h | h | h; omega; omega; exact hvq h.1)])
                  have hd2 : (cn == vo) = false := by simp [hvq]
                  have hd3 : decide (cn = vo) = false := by simp [hvq]
                  have hd4 : ((cn : Int) == (vo : Int)) = false := by rw [beq_eq_false_iff_ne]; omega
                  go_wp2_with fail
                  go_quiet (fail)
                  go_wp2_with fail
                  exact ⟨⟨k + 1, by omega, by go_num, by rw [HU2.out], by rw [HU2.out], hid (V4.out.1.keep0 ((Fr.refl _ _).drewN _))⟩, by simp [intOf]; omega⟩
    · obtain rfl : k = 3 := by omega
      have hge : ¬ ((3 : Nat) : Int) < 3 := by omega
      clear hlt hk
      have q0 : wr.cell? ⟨w.heap.size, 0, none⟩ = some (.int .i64 0) := by rw [cell_at V.out.res]; rfl
      have q1 : wr.cell? ⟨w.heap.size, 1, none⟩ = some (.slice none 0 0) := by rw [cell_at V.out.res]; rfl
      have z0 : ∀ i, wr.frozen? ⟨w.heap.size, i, none⟩ = false := frozen_at V.out.res
      rcases HBI.out with hb | ⟨j, ⟨gj, bj⟩, hj3, hb, hj⟩
      · subst hb
        have HW : Hid (winP (tri a b c) = none) := hid (by rw [HXE.out]; unfold winP; rw [HBV.out, if_pos (by omega)])
        go_wp2_with fail
        exact bodyPost_ret (v := .tuple #[.agg #[.int .i64 0, .slice none 0 0], .slice none 0 0, .int .i64 10]) (by simp [results, Try.results34, go_sem, q0, q1]) rfl ⟨_, _, by rw [HW.out]; rfl, by rw [HW.out]; exact Rd.nil _, by rw [HW.out]; exact (Oi.nil _).ri, ((V.out.fr.setCell (by simp) _).setCell (by simp) _)⟩
      · subst hb
        have HW : Hid (winP (tri a b c) = some j) := hid (by rw [HXE.out]; unfold winP; rw [HBV.out, if_neg (by omega)]; simp)
        have HJ := hid hj
        have HJ3 := hid hj3
        have hj3' : (j : Int) < 3 := by omega
        have hd0 : ¬ (j : Int) < 0 := by omega
        clear hj hj3
        go_wp2_with (first | (refine wpList_loadRow rfl 53 (.tmp 9) rfl (w.heap.size + 1) rfl 53 #[.slice a0 a.length c0, .slice a1 b.length c1, .slice a2 c.length c2] (0, 0) _ ?ld3 Try.underlying53 rfl HI3.out ?_))
        case ld3 => rw [HAT.out]; exact V.out.l3.at_
        clear q0 q1 z0
        go_loopw [7, 80] (fun o y w3 => ∃ (q : Nat) (a' : Option Addr) (n' c' : Nat), q ≤ 3 ∧ y = .int .i64 q ∧ o = .slice a' n' c' ∧ Hid (Oi w3 (.slice a' n' c') (minor x j q) ∧ Fr F0 wr w3 ∧ New wr (.slice a' n' c'))) (fun _ y _ => 3 - (intOf y).toNat)
        case atStart => exact ⟨0, _, _, _, by omega, rfl, rfl, hid ⟨Oi.nil _, Fr.refl _ _, New.nil _ _ _⟩⟩
        case round =>
          rename World => w3
          obtain ⟨q, a', n', c', hq, rfl, rfl, R⟩ := hrel
          have V5 := hid (V.out.keep0 R.out.2.1)
          by_cases h3 : q < 3
          · have h3' : (q : Int) < 3 := by omega
            have hidx := fun w => HID.out w q h3
            have hcj : w3.cell? ⟨w.heap.size + 1, j, none⟩ = some (s j) := V5.out.l3.cell j HJ3.out
            have HZ := hid (V5.out.l3.rd q h3)
            have HZJ := hid (V5.out.l3.rd j HJ3.out)
            generalize s q = z at hidx HZ
            generalize s j = zj at hcj HZJ
            have HML := hid (minor_len x j q)
            by_cases he : x q = x j
            · have heb := eqB he
              have HM : Hid (minor x j (q + 1) = minor x j q) := hid (by rw [minor, if_pos he])
              clear he
              go_wp2_with fail
              refine (beq_c z zj (x q) (x j) _ HZ.out HZJ.out).mono ?_
              rintro e w5 ⟨rfl, rfl⟩
              go_wp2_with fail
              exact ⟨⟨q + 1, _, _, _, by omega, by go_num, rfl, hid ⟨by rw [HM.out]; exact R.out.1, R.out.2⟩⟩, by simp [intOf]; omega⟩
            · have heb := neB he
              have HM : Hid (minor x j (q + 1) = minor x j q ++ [(q : Int)]) := hid (by rw [minor, if_neg he])
              clear he
              go_wp2_with fail
              refine (beq_c z zj (x q) (x j) _ HZ.out HZJ.out).mono ?_
              rintro e w5 ⟨rfl, rfl⟩
              go_wp2_with (at_builtin; refine wpList_appI rfl (.tmp 90) (.tmp 92) rfl _ (.slice (some ⟨w3.heap.size, 0, none⟩) 1 1) (minor x j q) [(q : Int)] rfl rfl ?c1 ?c2 ?c3 ?_)
              case c1 => exact R.out.1.keep0 ((Fr.refl _ _).alloc _)
              case c2 => exact Ri.one w3 (q : Int) 3
              case c3 => have := HML.out; simp; omega
              intro v6 w6 h6 g6 e6
              obtain ⟨a6, n6, c6, rfl⟩ := h6.form
              have R6 := hid (show Oi w6 (.slice a6 n6 c6) (minor x j (q + 1)) ∧ Fr F0 wr w6 ∧ New wr (.slice a6 n6 c6) from ⟨by rw [HM.out]; exact h6, Fr.grown (R.out.2.1.alloc (.cells #[.int .i64 q] 3)) g6 (fun i hi hlt => by have := R.out.2.2 i hi; omega), fun r hr => by
                rcases e6 r hr with e | e
                · exact R.out.2.2 r e
                · have := R.out.2.1.size
                  have : w3.heap.size + 1 ≤ r := by simpa using e
                  omega⟩)
              clear h6 g6 e6
              go_wp2_with fail
              exact ⟨⟨q + 1, _, _, _, by omega, by go_num, rfl, R6⟩, by simp [intOf]; omega⟩
          · obtain rfl : q = 3 := by omega
            have q0 : w3.cell? ⟨w.heap.size, 0, none⟩ = some (.int .i64 0) := by rw [cell_at V5.out.res]; rfl
            have q1 : w3.cell? ⟨w.heap.size, 1, none⟩ = some (.slice none 0 0) := by rw [cell_at V5.out.res]; rfl
            have z0 : ∀ i, w3.frozen? ⟨w.heap.size, i, none⟩ = false := frozen_at V5.out.res
            obtain ⟨A, hA, hAs, hAp⟩ := V5.out.pg
            obtain ⟨g1, u, g2, g3, g4⟩ := hAp j _ HJ3.out HJ.out
            have p0 : w3.cell? ⟨w.heap.size + 2, j * 2, none⟩ = some (.int .i64 gj) := by rw [cell_at hA]; exact g1
            have p1 : w3.cell? ⟨w.heap.size + 2, j * 2 + 1, none⟩ = some u := by rw [cell_at hA]; exact g2
            obtain ⟨ub, uc, rfl, _⟩ := g3.form
            have G3 := hid g3
            have G4 := hid g4
            clear hA hAs hAp g1 g2 g3 g4 hq h3
            have HD : Hid ((some j).bind (fun i => decP (tri a b c i)) = some (gj, bj)) := hid (by rw [HXE.out]; exact HJ.out)
            have HMX : Hid (minor (tri a b c) j 3 = minor x j 3) := hid (by rw [HXE.out])
            go_wp2_with fail
            have ff := ((Fr.refl (fun q => q = w.heap.size) w3).setCell (p := ⟨w.heap.size, 0, none⟩) (fun _ => rfl) (.int .i64 gj)).setCell (p := ⟨w.heap.size, 1, none⟩) (fun _ => rfl) (.slice ub bj.length uc)
            exact bodyPost_ret (v := .tuple #[.agg #[.int .i64 gj, .slice ub bj.length uc], .slice a' n' c', .int .i64 0]) (by simp [results, Try.results34, go_sem, q0, q1]) rfl ⟨_, _, by rw [HW.out, HD.out]; rfl, by rw [HW.out, HD.out]; exact G3.out.keepR ff (fun q hq e => by have := G4.out q hq; omega),
              by rw [HW.out]; dsimp only; rw [HMX.out]; exact Rg.keep R.out.1.ri ff (fun q hq e => by have := R.out.2.2 q (rblk_own hq); have := lt_of_heap V.out.res; omega), F0.there V5.out.fr ff (fun i e => by omega)⟩

end Go.Proofs.Ytfalaopljodmnaa
