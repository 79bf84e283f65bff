/- linnetlaw9.VoteForms: the walk. -/
import Derived.Test.YtfalaopljodmnaaVote7
namespace Go.Proofs.Ytfalaopljodmnaa
open Go.RowKit

theorem Yes.of {w w1 : World} (f : Fr F0 w w1) {e : Ending} {w' : World} (h : Yes w1 e w') : Yes w e w' := ⟨h.1, F0.and f h.2⟩

/-- 'string(b)'; the operation is looked at first. -/
theorem wpList_str {w : World} {ops : Array Oper} {rest : List Oper} {o : Oper} {a : Act} {Q : Exit → Act → World → Prop} (x : Operand) (ho : o.op = .convert 25 9 x) (v : Value) (l : List UInt8)
    (hx : a.eval x = v) (hr : Rd w v l) (hgd : Region.wanted o (yielded ops a.tmps) = true) (h : wpList Try.prog ops Q rest (a.put o.dst (.string ⟨l.toArray⟩)) w) : wpList Try.prog ops Q (o :: rest) a w :=
  wpList_strB hgd x 25 9 ho 5 Try.underlying25 Try.underlying5 str_ty v l hx hr h

/-- The error's number. -/
def oer (o : Option (List UInt8)) (e0 : Int) : Int := if o.isSome then 0 else e0

theorem venc_g (gen : Int) (v : Value) (b : List UInt8) (w : World) (hr : Rd w v b) (hl : b.length ≤ 35184372088832) :
    Calls Try.prog 37 #[.agg #[.int .i64 gen, v]] w fun e w' => ∃ r, e = .returned (.tuple #[r, .int .i64 (oer (encP gen b) 1)]) ∧ Ob w' 5 r ((encP gen b).getD []) ∧ Fr F0 w w' ∧ New w r := venc_c gen v b w hr hl

theorem rencp_g (gen : Int) (v : Value) (b : List UInt8) (w : World) (hr : Rd w v b) (hl : b.length ≤ 35184372088832) :
    Calls Try.prog 38 #[.agg #[.int .i64 gen, v]] w fun e w' => ∃ r, e = .returned (.tuple #[r, .int .i64 (oer (encP gen b) 1)]) ∧ Ob w' 5 r ((encP gen b).getD []) ∧ Fr F0 w w' ∧ New w r := rencp_c gen v b w hr hl

set_option maxRecDepth 100000 in
set_option maxHeartbeats 1600000 in
theorem forms_c (gen : Int) (v : Value) (l : List UInt8) (vb : Value) (b : List UInt8) (w : World) (hr : Rd w v l) (hb : Rd w vb b) :
    Calls Try.prog 8 #[.int .i64 gen, v, vb] w (Yes w) := by
  obtain ⟨a0, c0, rfl, _⟩ := hr.form
  obtain ⟨a1, c1, rfl, _⟩ := hb.form
  obtain ⟨n, HN⟩ : ∃ n, Hid (l.length = n) := ⟨_, hid rfl⟩
  obtain ⟨m, HM⟩ : ∃ m, Hid (b.length = m) := ⟨_, hid rfl⟩
  rw [HN.out] at hr ⊢
  rw [HM.out] at hb ⊢
  have HR := hid hr
  have HB := hid hb
  clear hr hb
  by_cases h1 : 1000 < n
  · have h1' : 1000 < (n : Int) := by omega
    go_enter Try.func8, Try.ntmps8
    go_wp2_with fail
    refine (awake9_c _).mono ?_
    rintro e w1 ⟨rfl, f1⟩
    go_wp2_with fail
    go_ret
    exact ⟨rfl, f1⟩
  · have h1' : ¬ 1000 < (n : Int) := by omega
    by_cases h2 : 1000 < m
    · have h2' : 1000 < (m : Int) := by omega
      go_enter Try.func8, Try.ntmps8
      go_wp2_with fail
      refine (awake9_c _).mono ?_
      rintro e w1 ⟨rfl, f1⟩
      go_wp2_with fail
      go_ret
      exact ⟨rfl, f1⟩
    · have h2' : ¬ 1000 < (m : Int) := by omega
      have HLN : Hid (l.length ≤ 35184372088832) := hid (by rw [HN.out]; omega)
      have HLM : Hid (b.length ≤ 35184372088832) := hid (by rw [HM.out]; omega)
      clear h1 h2
      go_enter Try.func8, Try.ntmps8
      go_wp2_with fail
      refine (venc_g gen _ l _ (HR.out.keep0 ((Fr.refl _ _).alloc _)) HLN.out).mono ?_
      rintro e w2 ⟨r2, rfl, o2, f2, _⟩
      obtain ⟨a2, c2, rfl, _⟩ := o2.rd.form
      have F2 := hid f2
      have O2 := hid o2.rd
      clear o2 f2
      go_wp2_with fail
      refine (rencp_g gen _ l _ (HR.out.keep0 (F0.and ((Fr.refl _ _).alloc _) F2.out)) HLN.out).mono ?_
      rintro e w3 ⟨r3, rfl, o3, f3, _⟩
      obtain ⟨a3, c3, rfl, _⟩ := o3.rd.form
      have F3 := hid (F0.and F2.out f3)
      have O2 := hid (O2.out.keep0 f3)
      have O3 := hid o3.rd
      clear o3 f3 F2
      generalize oer (encP gen l) 1 = er at *
      generalize (encP gen l).getD [] = y at *
      go_wp2_with fail
      refine (vdec_c _ b _ (HB.out.keep0 (F0.and ((Fr.refl _ _).alloc _) F3.out)) HLM.out).mono ?_
      rintro e w4 ⟨u4, rfl, o4, f4, _⟩
      obtain ⟨a4, c4, rfl, _⟩ := o4.form
      have F4 := hid (F0.and F3.out f4)
      have O2 := hid (O2.out.keep0 f4)
      have O3 := hid (O3.out.keep0 f4)
      have O4 := hid o4
      clear o4 f4 F3
      go_wp2_with fail
      refine (rdecp_c _ b _ (HB.out.keep0 ((F0.and ((Fr.refl _ _).alloc _) F4.out).alloc _)) HLM.out).mono ?_
      rintro e w5 ⟨u5, rfl, o5, f5, _⟩
      obtain ⟨a5, c5, rfl, _⟩ := o5.form
      have hb4 := f5.heap (heap_alloc_last w4 _) (fun e => e)
      have f45 := F0.and ((Fr.refl F0 w4).alloc _) f5
      have hb0 := (F0.and F4.out f45).heap (heap_alloc_last w _) (fun e => e)
      have F5 := hid (F0.and ((Fr.refl F0 w).alloc _) (F0.and F4.out f45))
      have O2 := hid ((O2.out.keep0 f45).keep0 ((Fr.refl F0 w5).alloc (.cells #[.int .i64 (pgGen (decP b)), .slice a5 (pgBody (decP b)).length c5] 59)))
      have O3 := hid ((O3.out.keep0 f45).keep0 ((Fr.refl F0 w5).alloc (.cells #[.int .i64 (pgGen (decP b)), .slice a5 (pgBody (decP b)).length c5] 59)))
      have O4 := hid ((O4.out.keep0 f45).keep0 ((Fr.refl F0 w5).alloc (.cells #[.int .i64 (pgGen (decP b)), .slice a5 (pgBody (decP b)).length c5] 59)))
      have O5 := hid (o5.keep0 ((Fr.refl F0 w5).alloc (.cells #[.int .i64 (pgGen (decP b)), .slice a5 (pgBody (decP b)).length c5] 59)))
      have c40 : w5.cell? ⟨w4.heap.size, 0, none⟩ = some (.int .i64 (pgGen (decP b))) := by rw [cell_at hb4]; rfl
      have c41 : w5.cell? ⟨w4.heap.size, 1, none⟩ = some (.slice a4 (pgBody (decP b)).length c4) := by rw [cell_at hb4]; rfl
      have hz4 : w4.heap.size < w5.heap.size := lt_of_heap hb4
      have c00 : w5.cell? ⟨w.heap.size, 0, none⟩ = some (.int .i64 gen) := by rw [cell_at hb0]; rfl
      have c01 : w5.cell? ⟨w.heap.size, 1, none⟩ = some (.slice a0 n c0) := by rw [cell_at hb0]; rfl
      have hz0 : w.heap.size < w5.heap.size := lt_of_heap hb0
      have HRL := hid (HR.out.keep0 (F5.out.alloc (.cells #[.int .i64 (pgGen (decP b)), .slice a5 (pgBody (decP b)).length c5] 59)))
      clear o5 f5 f45 hb4 hb0 F4
      generalize pgGen (decP b) = pg at *
      generalize pgErr (decP b) = pe at *
      generalize pgBody (decP b) = pb at *
      go_wp2_with (first | (refine wpList_str (.tmp 50) rfl _ y rfl O2.out rfl ?_) | (refine wpList_str (.tmp 52) rfl _ y rfl O3.out rfl ?_) | (refine wpList_str (.tmp 69) rfl _ pb rfl O4.out rfl ?_) | (refine wpList_str (.tmp 72) rfl _ pb rfl O5.out rfl ?_))
      refine (same_c gen gen _ _ l l _ HRL.out HRL.out).mono ?_
      rintro e w6 ⟨rfl, f6⟩
      have F6 := hid (F0.and (F5.out.alloc _) f6)
      have hs : (decide (gen = gen) && (l == l)) = true := by simp
      rw [hs]
      clear f6 hs
      go_wp2_with fail
      refine (awake9_c _).mono ?_
      rintro e w7 ⟨rfl, f7⟩
      have F7 := hid (F0.and F6.out f7)
      clear f7
      go_wp2_with fail
      go_ret
      exact ⟨rfl, F7.out⟩

end Go.Proofs.Ytfalaopljodmnaa
