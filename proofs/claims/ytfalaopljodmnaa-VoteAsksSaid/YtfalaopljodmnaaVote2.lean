/- vote: Decode; the reference's DecodePage. -/
import Derived.Test.YtfalaopljodmnaaVote1
namespace Go.Proofs.Ytfalaopljodmnaa
open Go.RowKit

/-- What bytes of a page say. -/
def pageOf (x : List UInt8) : Option (Int × List UInt8) :=
  if x.length < 4 ∨ (gbytes (x.drop 4) 60000).2.2 ≠ 0 ∨ (gbytes (x.drop 4) 60000).2.1 ≠ [] ∨ gnum x < 1 then none else some (gnum x, (gbytes (x.drop 4) 60000).1)

/-- The page that bytes are. -/
def decP (b : List UInt8) : Option (Int × List UInt8) := (opened b).bind pageOf

theorem pageOf_read (x : List UInt8) : pageOf x = if (rbytes (rnum x 0).2.1 (rnum x 0).2.2 60000).2.2 = 0 ∧ (rbytes (rnum x 0).2.1 (rnum x 0).2.2 60000).2.1 = [] ∧ 1 ≤ (rnum x 0).1 then
    some (((rnum x 0).1 : Int), (rbytes (rnum x 0).2.1 (rnum x 0).2.2 60000).1) else none := by
  by_cases h4 : x.length < 4
  · have e1 : rnum x 0 = (0, x, 2) := by unfold rnum; simp [h4]
    rw [e1]
    have e2 : rbytes x 2 60000 = ([], x, 2) := by unfold rbytes rnum; simp
    dsimp only
    rw [e2]
    unfold pageOf
    simp [h4]
  · by_cases hv : 2147483647 < leV (x.take 4)
    · have e1 : rnum x 0 = (0, x.drop 4, 2) := by unfold rnum; simp [h4, hv]
      have eg : gnum x = -1 := by unfold gnum; simp [hv]
      rw [e1]
      have e2 : rbytes (x.drop 4) 2 60000 = ([], x.drop 4, 2) := by unfold rbytes rnum; simp
      dsimp only
      rw [e2]
      unfold pageOf
      simp [eg]
    · have e1 : rnum x 0 = (leV (x.take 4), x.drop 4, 0) := by unfold rnum; simp [h4, hv]
      have eg : gnum x = leV (x.take 4) := by unfold gnum; simp [h4, hv]
      rw [e1]
      dsimp only
      unfold pageOf
      rw [eg]
      generalize leV (x.take 4) = g at *
      generalize x.drop 4 = l at *
      by_cases k4 : l.length < 4
      · have e2 : rbytes l 0 60000 = ([], l, 2) := by unfold rbytes rnum; simp [k4]
        have e3 : gbytes l 60000 = ([], [], 2) := by unfold gbytes gnum; simp [k4]
        rw [e2, e3]; simp
      · by_cases kv : 2147483647 < leV (l.take 4)
        · have e2 : rbytes l 0 60000 = ([], l.drop 4, 2) := by unfold rbytes rnum; simp [k4, kv]
          have e3 : gbytes l 60000 = ([], [], 2) := by unfold gbytes gnum; simp [kv]
          rw [e2, e3]; simp
        · have hr : rnum l 0 = (leV (l.take 4), l.drop 4, 0) := by unfold rnum; simp [k4, kv]
          have hg : gnum l = leV (l.take 4) := by unfold gnum; simp [k4, kv]
          unfold rbytes gbytes
          rw [hr, hg]
          dsimp only
          generalize leV (l.take 4) = n at *
          have hd : (l.drop 4).length = l.length - 4 := List.length_drop
          by_cases k5 : (l.drop 4).length < n
          · have k6 : (n : Int) < 0 ∨ (l.length : Int) - 4 < (n : Int) := by omega
            rw [if_pos k6, if_neg (by simp : ¬ ((0 : Int) ≠ 0)), if_pos k5]; simp
          · have k6 : ¬ ((n : Int) < 0 ∨ (l.length : Int) - 4 < (n : Int)) := by omega
            rw [if_neg k6, if_neg (by simp : ¬ ((0 : Int) ≠ 0)), if_neg k5]
            by_cases k7 : (60000 : Int) < (n : Int)
            · rw [if_pos k7, if_pos k7]; simp
            · rw [if_neg k7, if_neg k7]
              dsimp only
              rw [List.drop_drop, Int.toNat_natCast]
              have hx : ¬ x.length < 4 := h4
              by_cases k8 : l.drop (4 + n) = []
              · by_cases k9 : 1 ≤ g
                · rw [if_neg (by simp [hx, k8]; omega), if_pos ⟨rfl, k8, k9⟩]
                · rw [if_pos (by simp; omega), if_neg (by simp [k9])]
              · rw [if_pos (by simp [k8]), if_neg (by simp [k8])]

/-- The number, the body of what was read. -/
def pgGen (o : Option (Int × List UInt8)) : Int := (o.map (·.1)).getD 0
def pgBody (o : Option (Int × List UInt8)) : List UInt8 := (o.map (·.2)).getD []
def pgErr (o : Option (Int × List UInt8)) : Int := if o.isSome then 0 else 10

/-- A page is told. -/
def PgTo (w : World) (vin : Value) (o : Option (Int × List UInt8)) (e : Ending) (w' : World) : Prop :=
  ∃ v, e = .returned (.tuple #[.agg #[.int .i64 (pgGen o), v], .int .i64 (pgErr o)]) ∧ Rd w' v (pgBody o) ∧ Fr F0 w w' ∧ ∀ q, rblk v = some q → w.heap.size ≤ q ∨ rblk vin = some q

theorem open_some (v : Value) (l x : List UInt8) (w : World) (hr : Rd w v l) (hl : l.length ≤ 35184372088832) (h : opened l = some x) :
    Calls Try.prog 57 #[v] w fun e w' => ∃ r, e = .returned (.tuple #[r, .int .i64 0]) ∧ Ob w' 5 r x ∧ Fr F0 w w' ∧ New w r :=
  (open_c v l w hr hl).mono fun e w' ⟨r, h1, h2, h3, h4⟩ => by rw [h] at h1 h2; exact ⟨r, h1, h2, h3, h4⟩

theorem open_none (v : Value) (l : List UInt8) (w : World) (hr : Rd w v l) (hl : l.length ≤ 35184372088832) (h : opened l = none) :
    Calls Try.prog 57 #[v] w fun e w' => ∃ r, e = .returned (.tuple #[r, .int .i64 2]) ∧ Ob w' 5 r [] ∧ Fr F0 w w' ∧ New w r :=
  (open_c v l w hr hl).mono fun e w' ⟨r, h1, h2, h3, h4⟩ => by rw [h] at h1 h2; exact ⟨r, h1, h2, h3, h4⟩

theorem opened_len {l x : List UInt8} (h : opened l = some x) : x.length + 32 = l.length := by
  unfold opened at h
  split at h
  · cases h; rw [List.length_take]; omega
  · cases h

set_option maxRecDepth 100000 in
set_option maxHeartbeats 1600000 in
theorem vdec_c (v : Value) (b : List UInt8) (w : World) (hr : Rd w v b) (hl : b.length ≤ 35184372088832) :
    Calls Try.prog 39 #[v] w fun e w' => PgTo w v (decP b) e w' := by
  have HR := hid hr
  have HL := hid hl
  clear hr
  cases ho : opened b with
  | none =>
    have HO := hid ho
    have HD : Hid (decP b = none) := hid (by unfold decP; rw [ho]; rfl)
    clear ho hl
    go_enter Try.func39, Try.ntmps39
    go_wp2_with fail
    refine (open_none v b _ (HR.out.keep0 ((Fr.refl _ _).alloc _)) HL.out HO.out).mono ?_
    rintro e w1 ⟨r1, rfl, h1, f1, n1⟩
    obtain ⟨a1, m1, c1, rfl⟩ := h1.form
    have H1 := hid h1.rd
    have F1 := hid f1
    clear h1 f1 n1
    go_wp2_with fail
    refine (rw_new _ [] _ H1.out (by simp)).mono ?_
    rintro e w2 ⟨rb, rfl, h2⟩
    have H2 := hid (h2.from F1.out)
    clear h2 H1 F1
    go_wp2_with fail
    refine (rw_num _ _ rb [] 0 H2.out (by simp)).mono ?_
    rintro e w3 ⟨rfl, h3⟩
    have H3 := hid h3
    clear h3 H2
    go_wp2_with fail
    refine (rw_bytes _ _ rb _ _ 60000 H3.out (by simp [rnum])).mono ?_
    rintro e w4 ⟨v4, rfl, h4, n4, _, h5, _⟩
    obtain ⟨a4, m4, c4, rfl⟩ := h4.form
    have H5 := hid h5
    clear h4 n4 h5 H3
    have HB := H5.out.fr.heap (heap_alloc_last w _) (fun e => e)
    have q0 : w4.cell? ⟨w.heap.size, 0, none⟩ = some (.int .i64 0) := by rw [cell_at HB]; rfl
    have q1 : w4.cell? ⟨w.heap.size, 1, none⟩ = some (.slice none 0 0) := by rw [cell_at HB]; rfl
    have z0 : ∀ i, w4.frozen? ⟨w.heap.size, i, none⟩ = false := frozen_at HB
    have hz : w.heap.size < w4.heap.size := lt_of_heap HB
    have F5 : Hid (Fr F0 w w4) := hid (F0.and ((Fr.refl F0 w).alloc _) H5.out.fr)
    clear HB
    go_wp2_with fail
    exact bodyPost_ret (v := .tuple #[.agg #[.int .i64 0, .slice none 0 0], .int .i64 10]) (by simp [results, Try.results39, go_sem, q0, q1, hz]) rfl ⟨_, by rw [HD.out]; rfl, by rw [HD.out]; exact Rd.nil _, (((F5.out.setCell (by simp) _).setCell (by simp) _).alloc _), by intro q hq; simp [rblk] at hq⟩
  | some x =>
    have HO := hid ho
    obtain ⟨n, HN⟩ : ∃ n, Hid (x.length = n) := ⟨_, hid rfl⟩
    have hxl := opened_len ho
    rw [HN.out] at hxl
    have HXL : Hid (n ≤ 35184372088832) := hid (by omega)
    have HD : Hid (decP b = pageOf x) := hid (by unfold decP; rw [ho]; rfl)
    obtain ⟨⟨g, l1, e1⟩, hrn⟩ : ∃ r, rnum x 0 = r := ⟨_, rfl⟩
    obtain ⟨⟨bd, l2, e2⟩, hrb⟩ : ∃ r, rbytes l1 e1 60000 = r := ⟨_, rfl⟩
    have hl1 : l1.length ≤ n := by have := rnum_len x 0; rw [hrn, HN.out] at this; exact this
    have hp := pageOf_read x
    rw [hrn] at hp
    dsimp only at hp
    rw [hrb] at hp
    dsimp only at hp
    have HP := hid hp
    have HRN := hid hrn
    have HRB := hid hrb
    have HL1 := hid hl1
    clear hp hrn hrb hxl hl ho hl1
    by_cases he : e2 = 0
    · subst he
      have hl0 : 0 ≤ (l2.length : Int) := by omega
      rcases Nat.eq_zero_or_pos l2.length with hl2 | hl2
      · obtain rfl : l2 = [] := List.eq_nil_of_length_eq_zero hl2
        clear hl2 hl0
        by_cases hg : 1 ≤ g
        · have HD2 : Hid (decP b = some ((g : Int), bd)) := hid (by rw [HD.out, HP.out, if_pos ⟨rfl, rfl, hg⟩])
          have hg1 : ¬ (g : Int) < 1 := by omega
          clear hg
          go_enter Try.func39, Try.ntmps39
          go_wp2_with fail
          refine (open_some v b x _ (HR.out.keep0 ((Fr.refl _ _).alloc _)) HL.out HO.out).mono ?_
          rintro e w1 ⟨r1, rfl, h1, f1, n1⟩
          obtain ⟨a1, m1, c1, rfl⟩ := h1.form
          have H1 := hid h1.rd
          have F1 := hid f1
          clear h1 f1 n1
          go_wp2_with fail
          refine (rw_new _ x _ H1.out (by rw [HN.out]; exact HXL.out)).mono ?_
          rintro e w2 ⟨rb, rfl, h2⟩
          have H2 := hid (h2.from F1.out)
          clear h2 H1 F1
          go_wp2_with fail
          have hc := rw_num _ w2 rb x 0 H2.out (by rw [HN.out]; exact HXL.out)
          rw [HRN.out] at hc
          refine hc.mono ?_
          clear hc
          rintro e w3 ⟨rfl, h3⟩
          have H3 := hid h3
          clear h3 H2
          go_wp2_with fail
          have hc := rw_bytes _ w3 rb l1 e1 60000 H3.out (by have := HL1.out; have := HXL.out; omega)
          rw [HRB.out] at hc
          refine hc.mono ?_
          clear hc
          rintro e w4 ⟨v4, rfl, h4, n4, _, h5, _⟩
          obtain ⟨a4, m4, c4, rfl⟩ := h4.form
          have H4 := hid h4.rd
          have H5 := hid h5
          have N4 : Hid (∀ k, Value.ownBlock (.slice a4 m4 c4) = some k → ¬ k = w.heap.size) := hid (fun k hk e => by have := n4 k hk; have := H3.out.fr.size; have := heap_size_alloc' w (.cells #[.int .i64 0, .slice none 0 0] 56); omega)
          have N5 : Hid (∀ k, Value.ownBlock (.slice a4 m4 c4) = some k → w.heap.size < k) := hid (fun k hk => by have := n4 k hk; have := H3.out.fr.size; have := heap_size_alloc' w (.cells #[.int .i64 0, .slice none 0 0] 56); omega)
          clear h4 n4 h5 H3
          have HB := H5.out.fr.heap (heap_alloc_last w _) (fun e => e)
          have q0 : w4.cell? ⟨w.heap.size, 0, none⟩ = some (.int .i64 0) := by rw [cell_at HB]; rfl
          have q1 : w4.cell? ⟨w.heap.size, 1, none⟩ = some (.slice none 0 0) := by rw [cell_at HB]; rfl
          have z0 : ∀ i, w4.frozen? ⟨w.heap.size, i, none⟩ = false := frozen_at HB
          have hz : w.heap.size < w4.heap.size := lt_of_heap HB
          have F5 : Hid (Fr F0 w w4) := hid (F0.and ((Fr.refl F0 w).alloc _) H5.out.fr)
          clear HB
          go_wp2_with fail
          refine (rw_err _ _ rb _ _ (H5.out.keep ((Fr.refl F0 w4).alloc _))).mono ?_
          rintro e w5 ⟨rfl, rfl⟩
          go_wp2_with fail
          refine (rw_left _ _ rb _ _ (H5.out.keep ((Fr.refl F0 w4).alloc _))).mono ?_
          rintro e w5 ⟨rfl, rfl⟩
          go_wp2_with fail
          exact bodyPost_ret (v := .tuple #[.agg #[.int .i64 g, .slice a4 m4 c4], .int .i64 0]) (by simp [results, Try.results39, go_sem, q0, q1, hz]) rfl ⟨_, by rw [HD2.out]; rfl, by rw [HD2.out]; exact H4.out.keep ((((Fr.refl (fun k => k = w.heap.size) w4).setCell (p := ⟨w.heap.size, 0, none⟩) (fun _ => rfl) _).setCell (p := ⟨w.heap.size, 1, none⟩) (fun _ => rfl) _).alloc _) N4.out, (((F5.out.setCell (by simp) _).setCell (by simp) _).alloc _), fun q hq => .inl (Nat.le_of_lt (N5.out q (rblk_own hq)))⟩
        · have HD2 : Hid (decP b = none) := hid (by rw [HD.out, HP.out, if_neg (fun h => hg h.2.2)])
          have hg1 : (g : Int) < 1 := by omega
          clear hg
          go_enter Try.func39, Try.ntmps39
          go_wp2_with fail
          refine (open_some v b x _ (HR.out.keep0 ((Fr.refl _ _).alloc _)) HL.out HO.out).mono ?_
          rintro e w1 ⟨r1, rfl, h1, f1, n1⟩
          obtain ⟨a1, m1, c1, rfl⟩ := h1.form
          have H1 := hid h1.rd
          have F1 := hid f1
          clear h1 f1 n1
          go_wp2_with fail
          refine (rw_new _ x _ H1.out (by rw [HN.out]; exact HXL.out)).mono ?_
          rintro e w2 ⟨rb, rfl, h2⟩
          have H2 := hid (h2.from F1.out)
          clear h2 H1 F1
          go_wp2_with fail
          have hc := rw_num _ w2 rb x 0 H2.out (by rw [HN.out]; exact HXL.out)
          rw [HRN.out] at hc
          refine hc.mono ?_
          clear hc
          rintro e w3 ⟨rfl, h3⟩
          have H3 := hid h3
          clear h3 H2
          go_wp2_with fail
          have hc := rw_bytes _ w3 rb l1 e1 60000 H3.out (by have := HL1.out; have := HXL.out; omega)
          rw [HRB.out] at hc
          refine hc.mono ?_
          clear hc
          rintro e w4 ⟨v4, rfl, h4, n4, _, h5, _⟩
          obtain ⟨a4, m4, c4, rfl⟩ := h4.form
          have H4 := hid h4.rd
          have H5 := hid h5
          have N4 : Hid (∀ k, Value.ownBlock (.slice a4 m4 c4) = some k → ¬ k = w.heap.size) := hid (fun k hk e => by have := n4 k hk; have := H3.out.fr.size; have := heap_size_alloc' w (.cells #[.int .i64 0, .slice none 0 0] 56); omega)
          have N5 : Hid (∀ k, Value.ownBlock (.slice a4 m4 c4) = some k → w.heap.size < k) := hid (fun k hk => by have := n4 k hk; have := H3.out.fr.size; have := heap_size_alloc' w (.cells #[.int .i64 0, .slice none 0 0] 56); omega)
          clear h4 n4 h5 H3
          have HB := H5.out.fr.heap (heap_alloc_last w _) (fun e => e)
          have q0 : w4.cell? ⟨w.heap.size, 0, none⟩ = some (.int .i64 0) := by rw [cell_at HB]; rfl
          have q1 : w4.cell? ⟨w.heap.size, 1, none⟩ = some (.slice none 0 0) := by rw [cell_at HB]; rfl
          have z0 : ∀ i, w4.frozen? ⟨w.heap.size, i, none⟩ = false := frozen_at HB
          have hz : w.heap.size < w4.heap.size := lt_of_heap HB
          have F5 : Hid (Fr F0 w w4) := hid (F0.and ((Fr.refl F0 w).alloc _) H5.out.fr)
          clear HB
          go_wp2_with fail
          refine (rw_err _ _ rb _ _ (H5.out.keep ((Fr.refl F0 w4).alloc _))).mono ?_
          rintro e w5 ⟨rfl, rfl⟩
          go_wp2_with fail
          refine (rw_left _ _ rb _ _ (H5.out.keep ((Fr.refl F0 w4).alloc _))).mono ?_
          rintro e w5 ⟨rfl, rfl⟩
          go_wp2_with fail
          exact bodyPost_ret (v := .tuple #[.agg #[.int .i64 0, .slice none 0 0], .int .i64 10]) (by simp [results, Try.results39, go_sem, q0, q1, hz]) rfl ⟨_, by rw [HD2.out]; rfl, by rw [HD2.out]; exact Rd.nil _, (((F5.out.setCell (by simp) _).setCell (by simp) _).alloc _), by intro q hq; simp [rblk] at hq⟩
      · have hl3 : 0 < (l2.length : Int) := by omega
        have HD2 : Hid (decP b = none) := hid (by rw [HD.out, HP.out, if_neg (fun h => by rw [h.2.1] at hl2; simp at hl2)])
        have hne : ¬ l2 = [] := fun h => by rw [h] at hl2; simp at hl2
        clear hl3 hl0
        go_enter Try.func39, Try.ntmps39
        go_wp2_with fail
        refine (open_some v b x _ (HR.out.keep0 ((Fr.refl _ _).alloc _)) HL.out HO.out).mono ?_
        rintro e w1 ⟨r1, rfl, h1, f1, n1⟩
        obtain ⟨a1, m1, c1, rfl⟩ := h1.form
        have H1 := hid h1.rd
        have F1 := hid f1
        clear h1 f1 n1
        go_wp2_with fail
        refine (rw_new _ x _ H1.out (by rw [HN.out]; exact HXL.out)).mono ?_
        rintro e w2 ⟨rb, rfl, h2⟩
        have H2 := hid (h2.from F1.out)
        clear h2 H1 F1
        go_wp2_with fail
        have hc := rw_num _ w2 rb x 0 H2.out (by rw [HN.out]; exact HXL.out)
        rw [HRN.out] at hc
        refine hc.mono ?_
        clear hc
        rintro e w3 ⟨rfl, h3⟩
        have H3 := hid h3
        clear h3 H2
        go_wp2_with fail
        have hc := rw_bytes _ w3 rb l1 e1 60000 H3.out (by have := HL1.out; have := HXL.out; omega)
        rw [HRB.out] at hc
        refine hc.mono ?_
        clear hc
        rintro e w4 ⟨v4, rfl, h4, n4, _, h5, _⟩
        obtain ⟨a4, m4, c4, rfl⟩ := h4.form
        have H4 := hid h4.rd
        have H5 := hid h5
        have N4 : Hid (∀ k, Value.ownBlock (.slice a4 m4 c4) = some k → ¬ k = w.heap.size) := hid (fun k hk e => by have := n4 k hk; have := H3.out.fr.size; have := heap_size_alloc' w (.cells #[.int .i64 0, .slice none 0 0] 56); omega)
        have N5 : Hid (∀ k, Value.ownBlock (.slice a4 m4 c4) = some k → w.heap.size < k) := hid (fun k hk => by have := n4 k hk; have := H3.out.fr.size; have := heap_size_alloc' w (.cells #[.int .i64 0, .slice none 0 0] 56); omega)
        clear h4 n4 h5 H3
        have HB := H5.out.fr.heap (heap_alloc_last w _) (fun e => e)
        have q0 : w4.cell? ⟨w.heap.size, 0, none⟩ = some (.int .i64 0) := by rw [cell_at HB]; rfl
        have q1 : w4.cell? ⟨w.heap.size, 1, none⟩ = some (.slice none 0 0) := by rw [cell_at HB]; rfl
        have z0 : ∀ i, w4.frozen? ⟨w.heap.size, i, none⟩ = false := frozen_at HB
        have hz : w.heap.size < w4.heap.size := lt_of_heap HB
        have F5 : Hid (Fr F0 w w4) := hid (F0.and ((Fr.refl F0 w).alloc _) H5.out.fr)
        clear HB
        go_wp2_with fail
        refine (rw_err _ _ rb _ _ (H5.out.keep ((Fr.refl F0 w4).alloc _))).mono ?_
        rintro e w5 ⟨rfl, rfl⟩
        go_wp2_with fail
        refine (rw_left _ _ rb _ _ (H5.out.keep ((Fr.refl F0 w4).alloc _))).mono ?_
        rintro e w5 ⟨rfl, rfl⟩
        go_wp2_with fail
        exact bodyPost_ret (v := .tuple #[.agg #[.int .i64 0, .slice none 0 0], .int .i64 10]) (by simp [results, Try.results39, go_sem, q0, q1, hz]) rfl ⟨_, by rw [HD2.out]; rfl, by rw [HD2.out]; exact Rd.nil _, (((F5.out.setCell (by simp) _).setCell (by simp) _).alloc _), by intro q hq; simp [rblk] at hq⟩
    · have HD2 : Hid (decP b = none) := hid (by rw [HD.out, HP.out, if_neg (fun h => he h.1)])
      go_enter Try.func39, Try.ntmps39
      go_wp2_with fail
      refine (open_some v b x _ (HR.out.keep0 ((Fr.refl _ _).alloc _)) HL.out HO.out).mono ?_
      rintro e w1 ⟨r1, rfl, h1, f1, n1⟩
      obtain ⟨a1, m1, c1, rfl⟩ := h1.form
      have H1 := hid h1.rd
      have F1 := hid f1
      clear h1 f1 n1
      go_wp2_with fail
      refine (rw_new _ x _ H1.out (by rw [HN.out]; exact HXL.out)).mono ?_
      rintro e w2 ⟨rb, rfl, h2⟩
      have H2 := hid (h2.from F1.out)
      clear h2 H1 F1
      go_wp2_with fail
      have hc := rw_num _ w2 rb x 0 H2.out (by rw [HN.out]; exact HXL.out)
      rw [HRN.out] at hc
      refine hc.mono ?_
      clear hc
      rintro e w3 ⟨rfl, h3⟩
      have H3 := hid h3
      clear h3 H2
      go_wp2_with fail
      have hc := rw_bytes _ w3 rb l1 e1 60000 H3.out (by have := HL1.out; have := HXL.out; omega)
      rw [HRB.out] at hc
      refine hc.mono ?_
      clear hc
      rintro e w4 ⟨v4, rfl, h4, n4, _, h5, _⟩
      obtain ⟨a4, m4, c4, rfl⟩ := h4.form
      have H4 := hid h4.rd
      have H5 := hid h5
      have N4 : Hid (∀ k, Value.ownBlock (.slice a4 m4 c4) = some k → ¬ k = w.heap.size) := hid (fun k hk e => by have := n4 k hk; have := H3.out.fr.size; have := heap_size_alloc' w (.cells #[.int .i64 0, .slice none 0 0] 56); omega)
      have N5 : Hid (∀ k, Value.ownBlock (.slice a4 m4 c4) = some k → w.heap.size < k) := hid (fun k hk => by have := n4 k hk; have := H3.out.fr.size; have := heap_size_alloc' w (.cells #[.int .i64 0, .slice none 0 0] 56); omega)
      clear h4 n4 h5 H3
      have HB := H5.out.fr.heap (heap_alloc_last w _) (fun e => e)
      have q0 : w4.cell? ⟨w.heap.size, 0, none⟩ = some (.int .i64 0) := by rw [cell_at HB]; rfl
      have q1 : w4.cell? ⟨w.heap.size, 1, none⟩ = some (.slice none 0 0) := by rw [cell_at HB]; rfl
      have z0 : ∀ i, w4.frozen? ⟨w.heap.size, i, none⟩ = false := frozen_at HB
      have hz : w.heap.size < w4.heap.size := lt_of_heap HB
      have F5 : Hid (Fr F0 w w4) := hid (F0.and ((Fr.refl F0 w).alloc _) H5.out.fr)
      clear HB
      go_wp2_with fail
      refine (rw_err _ _ rb _ _ (H5.out.keep ((Fr.refl F0 w4).alloc _))).mono ?_
      rintro e w5 ⟨rfl, rfl⟩
      go_wp2_with fail
      exact bodyPost_ret (v := .tuple #[.agg #[.int .i64 0, .slice none 0 0], .int .i64 10]) (by simp [results, Try.results39, go_sem, q0, q1, hz]) rfl ⟨_, by rw [HD2.out]; rfl, by rw [HD2.out]; exact Rd.nil _, (((F5.out.setCell (by simp) _).setCell (by simp) _).alloc _), by intro q hq; simp [rblk] at hq⟩

end Go.Proofs.Ytfalaopljodmnaa
