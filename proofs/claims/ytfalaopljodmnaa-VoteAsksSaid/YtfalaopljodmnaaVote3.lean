/- vote: the reference's DecodePage. -/
import Derived.Test.YtfalaopljodmnaaVote2
namespace Go.Proofs.Ytfalaopljodmnaa
open Go.RowKit

theorem ropen_some (v : Value) (l x : List UInt8) (w : World) (hr : Rd w v l) (hl : l.length ≤ 35184372088832) (h : opened l = some x) :
    Calls Try.prog 52 #[v] w fun e w' => ∃ r, e = .returned (.tuple #[r, .int .i64 0]) ∧ Rd w' r x ∧ Fr F0 w w' ∧ ∀ k, r.ownBlock = some k → v.ownBlock = some k :=
  (ropen_c v l w hr hl).mono fun e w' ⟨r, h1, h2, h3, h4⟩ => by rw [h] at h1 h2; exact ⟨r, h1, h2, h3, h4⟩

theorem ropen_none (v : Value) (l : List UInt8) (w : World) (hr : Rd w v l) (hl : l.length ≤ 35184372088832) (h : opened l = none) :
    Calls Try.prog 52 #[v] w fun e w' => ∃ r, e = .returned (.tuple #[r, .int .i64 2]) ∧ Rd w' r [] ∧ Fr F0 w w' ∧ ∀ k, r.ownBlock = some k → v.ownBlock = some k :=
  (ropen_c v l w hr hl).mono fun e w' ⟨r, h1, h2, h3, h4⟩ => by rw [h] at h1 h2; exact ⟨r, h1, h2, h3, h4⟩

theorem Rd.own_lt {w : World} {v : Value} {l : List UInt8} (h : Rd w v l) (hp : 0 < l.length) : ∀ k, v.ownBlock = some k → k < w.heap.size := by
  obtain ⟨b, o, c, rfl, _, _⟩ := h.open hp
  intro k hk
  refine h.lt k ?_
  obtain ⟨m, hm⟩ : ∃ m, l.length = m + 1 := ⟨l.length - 1, by omega⟩
  rw [hm]
  simpa [rblk, Value.ownBlock] using hk

theorem Rd.own_rblk {w : World} {v : Value} {l : List UInt8} (h : Rd w v l) (hp : 0 < l.length) : ∀ k, v.ownBlock = some k → rblk v = some k := by
  obtain ⟨b, o, c, rfl, _, _⟩ := h.open hp
  intro k hk
  obtain ⟨m, hm⟩ : ∃ m, l.length = m + 1 := ⟨l.length - 1, by omega⟩
  rw [hm]
  simpa [rblk, Value.ownBlock] using hk

theorem Rd.keepR {S : Nat → Prop} {w w' : World} {v : Value} {l : List UInt8} (h : Rd w v l) (f : Fr S w w') (hn : ∀ k, rblk v = some k → ¬ S k) : Rd w' v l := Rg.keep h f hn

/-- What one knows of the cell of the result. -/
structure RC (w W : World) (T : Nat) : Prop where
  q0 : W.cell? ⟨w.heap.size, 0, none⟩ = some (.int .i64 0)
  q1 : W.cell? ⟨w.heap.size, 1, none⟩ = some (.slice none 0 0)
  z : ∀ i, W.frozen? ⟨w.heap.size, i, none⟩ = false
  lt : w.heap.size < W.heap.size

theorem RC.mk' {w W : World} {T : Nat} (f : Fr F0 (w.alloc (.cells #[.int .i64 0, .slice none 0 0] T)) W) : RC w W T := by
  have hb := f.heap (heap_alloc_last w _) (fun e => e)
  exact ⟨by rw [cell_at hb]; rfl, by rw [cell_at hb]; rfl, frozen_at hb, lt_of_heap hb⟩

theorem RC.step {w W W' : World} {T : Nat} (h : RC w W T) (f : Fr F0 W W') : RC w W' T :=
  ⟨(f.cell (p := ⟨w.heap.size, 0, none⟩) h.lt (fun e => e)).trans h.q0, (f.cell (p := ⟨w.heap.size, 1, none⟩) h.lt (fun e => e)).trans h.q1, fun i => (f.frozen (p := ⟨w.heap.size, i, none⟩) h.lt (fun e => e)).trans (h.z i), Nat.lt_of_lt_of_le h.lt f.size⟩

set_option maxRecDepth 100000 in
set_option maxHeartbeats 1600000 in
theorem rdecp_c (v : Value) (b : List UInt8) (w : World) (hr : Rd w v b) (hl : b.length ≤ 35184372088832) :
    Calls Try.prog 40 #[v] w fun e w' => PgTo w v (decP b) e w' := by
  have HR := hid hr
  have HL := hid hl
  clear hr
  cases ho : opened b with
  | none =>
    have HO := hid ho
    have HD : Hid (decP b = none) := hid (by unfold decP; rw [ho]; rfl)
    clear ho hl
    go_enter Try.func40, Try.ntmps40
    go_wp2_with fail
    refine (ropen_none v b _ (HR.out.keep0 ((Fr.refl _ _).alloc _)) HL.out HO.out).mono ?_
    rintro e w1 ⟨r1, rfl, h1, f1, n1⟩
    obtain ⟨a1, c1, rfl, _⟩ := h1.form
    obtain ⟨q0, q1, z0, hz⟩ := (RC.mk' f1 : RC w w1 59)
    have F1 := hid (F0.and ((Fr.refl F0 w).alloc _) f1)
    clear h1 f1 n1
    go_wp2_with fail
    exact bodyPost_ret (v := .tuple #[.agg #[.int .i64 0, .slice none 0 0], .int .i64 10]) (by simp [results, Try.results40, go_sem, q0, q1]) rfl ⟨_, by rw [HD.out]; rfl, by rw [HD.out]; exact Rd.nil _, ((F1.out.setCell (by simp) _).setCell (by simp) _), by intro q hq; simp [rblk] at hq⟩
  | some x =>
    have HO := hid ho
    have HV := hid (HR.out.own_lt (by have := opened_len ho; omega))
    have HVR := hid (HR.out.own_rblk (by have := opened_len ho; omega))
    obtain ⟨n, HN⟩ : ∃ n, Hid (x.length = n) := ⟨_, hid rfl⟩
    have hxl := opened_len ho
    rw [HN.out] at hxl
    have HXL : Hid (n ≤ 35184372088832) := hid (by omega)
    have hnm : (n : Int) ≤ 35184372088832 := by omega
    have HD : Hid (decP b = pageOf x) := hid (by unfold decP; rw [ho]; rfl)
    clear ho hxl hl
    by_cases h4 : n < 4
    · have h4' : (n : Int) < 4 := by omega
      have HD2 : Hid (decP b = none) := hid (by rw [HD.out]; unfold pageOf; rw [HN.out, if_pos (.inl h4)])
      clear h4
      go_enter Try.func40, Try.ntmps40
      go_wp2_with fail
      refine (ropen_some v b x _ (HR.out.keep0 ((Fr.refl _ _).alloc _)) HL.out HO.out).mono ?_
      rintro e w1 ⟨r1, rfl, h1, f1, n1⟩
      obtain ⟨a1, c1, rfl, _⟩ := h1.form
      rw [HN.out] at h1 n1 ⊢
      obtain ⟨q0, q1, z0, hz⟩ := (RC.mk' f1 : RC w w1 59)
      have F1 := hid (F0.and ((Fr.refl F0 w).alloc _) f1)
      have H1 := hid h1
      have N1 : Hid (∀ k, Value.ownBlock (.slice a1 n c1) = some k → k < w.heap.size) := hid (fun k hk => HV.out k (n1 k hk))
      have NV1 := hid n1
      clear h1 f1 n1
      go_wp2_with fail
      exact bodyPost_ret (v := .tuple #[.agg #[.int .i64 0, .slice none 0 0], .int .i64 10]) (by simp [results, Try.results40, go_sem, q0, q1]) rfl ⟨_, by rw [HD2.out]; rfl, by rw [HD2.out]; exact Rd.nil _, ((F1.out.setCell (by simp) _).setCell (by simp) _), by intro q hq; simp [rblk] at hq⟩
    · have h4' : ¬ (n : Int) < 4 := by omega
      have H4N := hid h4
      obtain ⟨⟨bd, rest, f⟩, hgb⟩ : ∃ r, gbytes (x.drop 4) 60000 = r := ⟨_, rfl⟩
      have hp : decP b = if f ≠ 0 ∨ rest ≠ [] ∨ gnum x < 1 then none else some (gnum x, bd) := by
        rw [HD.out]; unfold pageOf; rw [HN.out, hgb]
        by_cases h : f ≠ 0 ∨ rest ≠ [] ∨ gnum x < 1
        · rw [if_pos (.inr h), if_pos h]
        · rw [if_neg (fun k => k.elim h4 h), if_neg h]
      have hge := gnum_ge x
      have HGB := hid hgb
      have HGN : Hid (gnum x = gnum x) := hid rfl
      clear h4 hgb
      by_cases hf : f = 0
      · subst hf
        have HP := hid hp
        clear hp
        rcases Nat.eq_zero_or_pos rest.length with hl2 | hl2
        · obtain rfl : rest = [] := List.eq_nil_of_length_eq_zero hl2
          clear hl2
          by_cases hg : gnum x < 1
          · have HD2 : Hid (decP b = none) := hid (by rw [HP.out, if_pos (.inr (.inr hg))])
            go_enter Try.func40, Try.ntmps40
            go_wp2_with fail
            refine (ropen_some v b x _ (HR.out.keep0 ((Fr.refl _ _).alloc _)) HL.out HO.out).mono ?_
            rintro e w1 ⟨r1, rfl, h1, f1, n1⟩
            obtain ⟨a1, c1, rfl, _⟩ := h1.form
            rw [HN.out] at h1 n1 ⊢
            obtain ⟨q0, q1, z0, hz⟩ := (RC.mk' f1 : RC w w1 59)
            have F1 := hid (F0.and ((Fr.refl F0 w).alloc _) f1)
            have H1 := hid h1
            have N1 : Hid (∀ k, Value.ownBlock (.slice a1 n c1) = some k → k < w.heap.size) := hid (fun k hk => HV.out k (n1 k hk))
            have NV1 := hid n1
            clear h1 f1 n1
            go_wp2_with (refine wpList_slB rfl (.tmp 23) (some (.const (.int .i64 4))) none 25 rfl 5 Try.underlying25 infoB _ x rfl H1.out 4 n (.inr rfl) (.inl ⟨rfl, HN.out.symm⟩) (by have := H4N.out; omega) (by rw [HN.out]; omega) ?_)
            intro a' m' c' hsl
            have R2 : Hid (Rd w1 (.slice a' m' c') (x.drop 4)) := hid (by have := hsl.out.1; rwa [List.take_of_length_le (by rw [List.length_drop, HN.out]; omega)] at this)
            have N2 : Hid (∀ k, Value.ownBlock (.slice a' m' c') = some k → k < w.heap.size) := hid (fun k hk => N1.out k (hsl.out.2.2.1 k hk))
            have NV2 : Hid (∀ k, Value.ownBlock (.slice a' m' c') = some k → v.ownBlock = some k) := hid (fun k hk => NV1.out k (hsl.out.2.2.1 k hk))
            clear hsl
            go_wp2_with fail
            have hc := getbytes_c _ (x.drop 4) 60000 w1 R2.out (by rw [List.length_drop, HN.out]; have := HXL.out; omega)
            rw [HGB.out] at hc
            refine hc.mono ?_
            clear hc
            rintro e w2 ⟨v1, v2, rfl, g1, g2, f2, n1, n2⟩
            obtain ⟨b1, d1, rfl, _⟩ := g1.form
            obtain ⟨b2, d2, rfl, _⟩ := g2.form
            have F2 := hid f2
            have G1 := hid g1
            have NV : Hid (∀ k, Value.ownBlock (.slice b1 bd.length d1) = some k → v.ownBlock = some k) := hid (fun k hk => NV2.out k (n1 k hk))
            have N3 : Hid (∀ k, Value.ownBlock (.slice b1 bd.length d1) = some k → ¬ k = w.heap.size) := hid (fun k hk e => by have := N2.out k (n1 k hk); omega)
            obtain ⟨q0, q1, z0, hz⟩ := (RC.step ⟨q0, q1, z0, hz⟩ f2 : RC w w2 59)
            clear g1 g2 f2 n1 n2
            go_wp2_with fail
            refine (getnum_c _ x _ (H1.out.keep0 F2.out)).mono ?_
            rintro e w3 ⟨rfl, f3⟩
            obtain ⟨q0, q1, z0, hz⟩ := (RC.step ⟨q0, q1, z0, hz⟩ f3 : RC w w3 59)
            have F3 := hid (F0.and F2.out f3)
            have G1 := hid (G1.out.keep0 f3)
            clear f3
            go_wp2_with fail
            exact bodyPost_ret (v := .tuple #[.agg #[.int .i64 0, .slice none 0 0], .int .i64 10]) (by simp [results, Try.results40, go_sem, q0, q1]) rfl ⟨_, by rw [HD2.out]; rfl, by rw [HD2.out]; exact Rd.nil _, (((F0.and F1.out F3.out).setCell (by simp) _).setCell (by simp) _), by intro q hq; simp [rblk] at hq⟩
          · have HD2 : Hid (decP b = some (gnum x, bd)) := hid (by rw [HP.out, if_neg (by simp; omega)])
            go_enter Try.func40, Try.ntmps40
            go_wp2_with fail
            refine (ropen_some v b x _ (HR.out.keep0 ((Fr.refl _ _).alloc _)) HL.out HO.out).mono ?_
            rintro e w1 ⟨r1, rfl, h1, f1, n1⟩
            obtain ⟨a1, c1, rfl, _⟩ := h1.form
            rw [HN.out] at h1 n1 ⊢
            obtain ⟨q0, q1, z0, hz⟩ := (RC.mk' f1 : RC w w1 59)
            have F1 := hid (F0.and ((Fr.refl F0 w).alloc _) f1)
            have H1 := hid h1
            have N1 : Hid (∀ k, Value.ownBlock (.slice a1 n c1) = some k → k < w.heap.size) := hid (fun k hk => HV.out k (n1 k hk))
            have NV1 := hid n1
            clear h1 f1 n1
            go_wp2_with (refine wpList_slB rfl (.tmp 23) (some (.const (.int .i64 4))) none 25 rfl 5 Try.underlying25 infoB _ x rfl H1.out 4 n (.inr rfl) (.inl ⟨rfl, HN.out.symm⟩) (by have := H4N.out; omega) (by rw [HN.out]; omega) ?_)
            intro a' m' c' hsl
            have R2 : Hid (Rd w1 (.slice a' m' c') (x.drop 4)) := hid (by have := hsl.out.1; rwa [List.take_of_length_le (by rw [List.length_drop, HN.out]; omega)] at this)
            have N2 : Hid (∀ k, Value.ownBlock (.slice a' m' c') = some k → k < w.heap.size) := hid (fun k hk => N1.out k (hsl.out.2.2.1 k hk))
            have NV2 : Hid (∀ k, Value.ownBlock (.slice a' m' c') = some k → v.ownBlock = some k) := hid (fun k hk => NV1.out k (hsl.out.2.2.1 k hk))
            clear hsl
            go_wp2_with fail
            have hc := getbytes_c _ (x.drop 4) 60000 w1 R2.out (by rw [List.length_drop, HN.out]; have := HXL.out; omega)
            rw [HGB.out] at hc
            refine hc.mono ?_
            clear hc
            rintro e w2 ⟨v1, v2, rfl, g1, g2, f2, n1, n2⟩
            obtain ⟨b1, d1, rfl, _⟩ := g1.form
            obtain ⟨b2, d2, rfl, _⟩ := g2.form
            have F2 := hid f2
            have G1 := hid g1
            have NV : Hid (∀ k, Value.ownBlock (.slice b1 bd.length d1) = some k → v.ownBlock = some k) := hid (fun k hk => NV2.out k (n1 k hk))
            have N3 : Hid (∀ k, Value.ownBlock (.slice b1 bd.length d1) = some k → ¬ k = w.heap.size) := hid (fun k hk e => by have := N2.out k (n1 k hk); omega)
            obtain ⟨q0, q1, z0, hz⟩ := (RC.step ⟨q0, q1, z0, hz⟩ f2 : RC w w2 59)
            clear g1 g2 f2 n1 n2
            go_wp2_with fail
            refine (getnum_c _ x _ (H1.out.keep0 F2.out)).mono ?_
            rintro e w3 ⟨rfl, f3⟩
            obtain ⟨q0, q1, z0, hz⟩ := (RC.step ⟨q0, q1, z0, hz⟩ f3 : RC w w3 59)
            have F3 := hid (F0.and F2.out f3)
            have G1 := hid (G1.out.keep0 f3)
            clear f3
            go_wp2_with fail
            refine (getnum_c _ x _ (H1.out.keep0 F3.out)).mono ?_
            rintro e w4 ⟨rfl, f4⟩
            obtain ⟨q0, q1, z0, hz⟩ := (RC.step ⟨q0, q1, z0, hz⟩ f4 : RC w w4 59)
            have F4 := hid (F0.and F3.out f4)
            have G4 := hid (G1.out.keep0 f4)
            clear f4
            go_wp2_with fail
            exact bodyPost_ret (v := .tuple #[.agg #[.int .i64 (gnum x), .slice b1 bd.length d1], .int .i64 0]) (by simp [results, Try.results40, go_sem, q0, q1]) rfl ⟨_, by rw [HD2.out]; rfl, by rw [HD2.out]; exact G4.out.keep (((Fr.refl (fun k => k = w.heap.size) w4).setCell (p := ⟨w.heap.size, 0, none⟩) (fun _ => rfl) _).setCell (p := ⟨w.heap.size, 1, none⟩) (fun _ => rfl) _) N3.out, (((F0.and F1.out F4.out).setCell (by simp) _).setCell (by simp) _), fun q hq => .inr (HVR.out q (NV.out q (rblk_own hq)))⟩
        · have hne : ¬ rest = [] := fun h => by rw [h] at hl2; simp at hl2
          have HD2 : Hid (decP b = none) := hid (by rw [HP.out, if_pos (.inr (.inl hne))])
          go_enter Try.func40, Try.ntmps40
          go_wp2_with fail
          refine (ropen_some v b x _ (HR.out.keep0 ((Fr.refl _ _).alloc _)) HL.out HO.out).mono ?_
          rintro e w1 ⟨r1, rfl, h1, f1, n1⟩
          obtain ⟨a1, c1, rfl, _⟩ := h1.form
          rw [HN.out] at h1 n1 ⊢
          obtain ⟨q0, q1, z0, hz⟩ := (RC.mk' f1 : RC w w1 59)
          have F1 := hid (F0.and ((Fr.refl F0 w).alloc _) f1)
          have H1 := hid h1
          have N1 : Hid (∀ k, Value.ownBlock (.slice a1 n c1) = some k → k < w.heap.size) := hid (fun k hk => HV.out k (n1 k hk))
          have NV1 := hid n1
          clear h1 f1 n1
          go_wp2_with (refine wpList_slB rfl (.tmp 23) (some (.const (.int .i64 4))) none 25 rfl 5 Try.underlying25 infoB _ x rfl H1.out 4 n (.inr rfl) (.inl ⟨rfl, HN.out.symm⟩) (by have := H4N.out; omega) (by rw [HN.out]; omega) ?_)
          intro a' m' c' hsl
          have R2 : Hid (Rd w1 (.slice a' m' c') (x.drop 4)) := hid (by have := hsl.out.1; rwa [List.take_of_length_le (by rw [List.length_drop, HN.out]; omega)] at this)
          have N2 : Hid (∀ k, Value.ownBlock (.slice a' m' c') = some k → k < w.heap.size) := hid (fun k hk => N1.out k (hsl.out.2.2.1 k hk))
          have NV2 : Hid (∀ k, Value.ownBlock (.slice a' m' c') = some k → v.ownBlock = some k) := hid (fun k hk => NV1.out k (hsl.out.2.2.1 k hk))
          clear hsl
          go_wp2_with fail
          have hc := getbytes_c _ (x.drop 4) 60000 w1 R2.out (by rw [List.length_drop, HN.out]; have := HXL.out; omega)
          rw [HGB.out] at hc
          refine hc.mono ?_
          clear hc
          rintro e w2 ⟨v1, v2, rfl, g1, g2, f2, n1, n2⟩
          obtain ⟨b1, d1, rfl, _⟩ := g1.form
          obtain ⟨b2, d2, rfl, _⟩ := g2.form
          have F2 := hid f2
          have G1 := hid g1
          have NV : Hid (∀ k, Value.ownBlock (.slice b1 bd.length d1) = some k → v.ownBlock = some k) := hid (fun k hk => NV2.out k (n1 k hk))
          have N3 : Hid (∀ k, Value.ownBlock (.slice b1 bd.length d1) = some k → ¬ k = w.heap.size) := hid (fun k hk e => by have := N2.out k (n1 k hk); omega)
          obtain ⟨q0, q1, z0, hz⟩ := (RC.step ⟨q0, q1, z0, hz⟩ f2 : RC w w2 59)
          clear g1 g2 f2 n1 n2
          go_wp2_with fail
          exact bodyPost_ret (v := .tuple #[.agg #[.int .i64 0, .slice none 0 0], .int .i64 10]) (by simp [results, Try.results40, go_sem, q0, q1]) rfl ⟨_, by rw [HD2.out]; rfl, by rw [HD2.out]; exact Rd.nil _, (((F0.and F1.out F2.out).setCell (by simp) _).setCell (by simp) _), by intro q hq; simp [rblk] at hq⟩
      · have HD2 : Hid (decP b = none) := hid (by rw [hp, if_pos (.inl hf)])
        clear hp
        go_enter Try.func40, Try.ntmps40
        go_wp2_with fail
        refine (ropen_some v b x _ (HR.out.keep0 ((Fr.refl _ _).alloc _)) HL.out HO.out).mono ?_
        rintro e w1 ⟨r1, rfl, h1, f1, n1⟩
        obtain ⟨a1, c1, rfl, _⟩ := h1.form
        rw [HN.out] at h1 n1 ⊢
        obtain ⟨q0, q1, z0, hz⟩ := (RC.mk' f1 : RC w w1 59)
        have F1 := hid (F0.and ((Fr.refl F0 w).alloc _) f1)
        have H1 := hid h1
        have N1 : Hid (∀ k, Value.ownBlock (.slice a1 n c1) = some k → k < w.heap.size) := hid (fun k hk => HV.out k (n1 k hk))
        have NV1 := hid n1
        clear h1 f1 n1
        go_wp2_with (refine wpList_slB rfl (.tmp 23) (some (.const (.int .i64 4))) none 25 rfl 5 Try.underlying25 infoB _ x rfl H1.out 4 n (.inr rfl) (.inl ⟨rfl, HN.out.symm⟩) (by have := H4N.out; omega) (by rw [HN.out]; omega) ?_)
        intro a' m' c' hsl
        have R2 : Hid (Rd w1 (.slice a' m' c') (x.drop 4)) := hid (by have := hsl.out.1; rwa [List.take_of_length_le (by rw [List.length_drop, HN.out]; omega)] at this)
        have N2 : Hid (∀ k, Value.ownBlock (.slice a' m' c') = some k → k < w.heap.size) := hid (fun k hk => N1.out k (hsl.out.2.2.1 k hk))
        have NV2 : Hid (∀ k, Value.ownBlock (.slice a' m' c') = some k → v.ownBlock = some k) := hid (fun k hk => NV1.out k (hsl.out.2.2.1 k hk))
        clear hsl
        go_wp2_with fail
        have hc := getbytes_c _ (x.drop 4) 60000 w1 R2.out (by rw [List.length_drop, HN.out]; have := HXL.out; omega)
        rw [HGB.out] at hc
        refine hc.mono ?_
        clear hc
        rintro e w2 ⟨v1, v2, rfl, g1, g2, f2, n1, n2⟩
        obtain ⟨b1, d1, rfl, _⟩ := g1.form
        obtain ⟨b2, d2, rfl, _⟩ := g2.form
        have F2 := hid f2
        have G1 := hid g1
        have NV : Hid (∀ k, Value.ownBlock (.slice b1 bd.length d1) = some k → v.ownBlock = some k) := hid (fun k hk => NV2.out k (n1 k hk))
        have N3 : Hid (∀ k, Value.ownBlock (.slice b1 bd.length d1) = some k → ¬ k = w.heap.size) := hid (fun k hk e => by have := N2.out k (n1 k hk); omega)
        obtain ⟨q0, q1, z0, hz⟩ := (RC.step ⟨q0, q1, z0, hz⟩ f2 : RC w w2 59)
        clear g1 g2 f2 n1 n2
        go_wp2_with fail
        exact bodyPost_ret (v := .tuple #[.agg #[.int .i64 0, .slice none 0 0], .int .i64 10]) (by simp [results, Try.results40, go_sem, q0, q1]) rfl ⟨_, by rw [HD2.out]; rfl, by rw [HD2.out]; exact Rd.nil _, (((F0.and F1.out F2.out).setCell (by simp) _).setCell (by simp) _), by intro q hq; simp [rblk] at hq⟩

end Go.Proofs.Ytfalaopljodmnaa
