/- SHA-256, the program's: spread. -/
import Derived.Test.YtfalaopljodmnaaShaS
import Derived.Deep.RegionHeld3
import Derived.Test.YtfalaopljodmnaaArr
import Derived.StillTailTactics
namespace Go.Proofs.Ytfalaopljodmnaa
open Go.RowKit

theorem drop_getD (l : List UInt8) (i : Nat) (h : i < l.length) : l.drop i = l.getD i 0 :: l.drop (i + 1) := by
  rw [List.drop_eq_getElem_cons h, List.getD_eq_getElem?_getD, List.getElem?_eq_getElem h]; rfl

theorem drop4 (l : List UInt8) (i : Nat) (h : i + 3 < l.length) : l.drop i = l.getD i 0 :: l.getD (i + 1) 0 :: l.getD (i + 2) 0 :: l.getD (i + 3) 0 :: l.drop (i + 4) := by
  rw [drop_getD l i (by omega), drop_getD l (i + 1) (by omega), drop_getD l (i + 2) (by omega), drop_getD l (i + 3) (by omega)]

/-- The array of words in memory. -/
def AW (w wr : World) (b t : Nat) (l : List UInt8) (k : Nat) : Prop := wr.heap[b]? = some (.cells (arrW l k) t (0, 0)) ∧ Fr F0 w wr

theorem AW.set {w wr wm : World} {b t : Nat} {l : List UInt8} {k : Nat} (h : AW w wr b t l k) (hb : w.heap.size ≤ b) (f : Fr F0 wr wm) (hk : k < 64) (x : Int) (hx : sched l (k + 1) = sched l k ++ [x]) : AW w (wm.setCell ⟨b, k, none⟩ (.int .u32 x)) b t l (k + 1) := by
  refine ⟨?_, ?_⟩
  · rw [heap_setCell (f.heap h.1 (fun e => e)), arrW_set l k hk x hx]
  · exact ((Fr.trans h.2 f (fun _ _ e => e)).mono (S' := F0) (fun _ _ e => e)).setCell (p := ⟨b, k, none⟩) (fun hi => by have hi : b < w.heap.size := hi; omega) _

set_option maxRecDepth 100000 in
set_option maxHeartbeats 3200000 in
theorem spread_c (v : Value) (l : List UInt8) (w : World) (hr : Rd w v l) (hl : l.length = 64) :
    Calls Try.prog 89 #[v] w fun e w' => e = .returned (.agg (arrW l 64)) ∧ Fr F0 w w' := by
  have HR := hid hr
  have HL := hid hl
  clear hr hl
  go_enter Try.func89, Try.ntmps89
  go_wp2_with fail
  go_loopw [6] (fun i wr => ∃ k : Nat, k ≤ 64 ∧ i = .int .i64 k ∧ Hid (AW w wr w.heap.size 129 l k)) (fun i _ => 64 - (intOf i).toNat)
  case atStart => exact ⟨0, by omega, rfl, hid ⟨heap_alloc_last _ _, (Fr.refl _ _).alloc _⟩⟩
  case round =>
    obtain ⟨k, hk, rfl, H⟩ := hrel
    by_cases hlt : k < 64
    · have hsz : w.heap.size < wr.heap.size := lt_of_heap H.out.1
      by_cases h16 : k < 16
      · have hc : wr.cell? ⟨w.heap.size, k, none⟩ = some (.int .u32 0) := by rw [cell_at H.out.1]; exact arrW_next l k hlt
        have hf : wr.frozen? ⟨w.heap.size, k, none⟩ = false := frozen_at H.out.1 k
        obtain ⟨a8, m8, c8, hrun8, H8⟩ := run_slB (P := Try.prog) 25 5 Try.underlying25 infoB _ l HR.out (some (.int .i64 (4 * (k : Int)))) none (4 * k) l.length (.inr (by simp)) (.inl ⟨rfl, rfl⟩) (by have := HL.out; omega) (Nat.le_refl _)
        have HW : Hid (∀ W, Fr F0 w W → Calls Try.prog 91 #[.slice a8 m8 c8] W fun e w' => e = .returned (.int .u32 (ownW l k)) ∧ ∃ n, w' = W.drewN n) := hid (fun W f => by
          have h1 := H8.out.1.keep0 f
          rw [List.take_of_length_le (by rw [List.length_drop]; omega)] at h1
          exact word_c _ _ _ _ _ _ _ (drop4 l (4 * k) (by have := HL.out; omega)) W h1)
        go_wp2_with fail
        refine (HW.out _ H.out.2).mono ?_
        rintro e w1 ⟨rfl, nq, rfl⟩
        go_wp2_with fail
        exact ⟨⟨k + 1, by omega, by go_num, hid (H.out.set (Nat.le_refl _) ((Fr.refl _ wr).drewN nq) hlt _ (sched_own l k h16))⟩, by simp [intOf]; omega⟩
      · have hc : wr.cell? ⟨w.heap.size, k, none⟩ = some (.int .u32 0) := by rw [cell_at H.out.1]; exact arrW_next l k hlt
        have hf : wr.frozen? ⟨w.heap.size, k, none⟩ = false := frozen_at H.out.1 k
        have c16 : wr.cell? ⟨w.heap.size, k - 16, none⟩ = some (.int .u32 ((sched l k).getD (k - 16) 0)) := by rw [cell_at H.out.1]; exact arrW_get l k _ (by omega)
        have c15 : wr.cell? ⟨w.heap.size, k - 15, none⟩ = some (.int .u32 ((sched l k).getD (k - 15) 0)) := by rw [cell_at H.out.1]; exact arrW_get l k _ (by omega)
        have c7 : wr.cell? ⟨w.heap.size, k - 7, none⟩ = some (.int .u32 ((sched l k).getD (k - 7) 0)) := by rw [cell_at H.out.1]; exact arrW_get l k _ (by omega)
        have c2 : wr.cell? ⟨w.heap.size, k - 2, none⟩ = some (.int .u32 ((sched l k).getD (k - 2) 0)) := by rw [cell_at H.out.1]; exact arrW_get l k _ (by omega)
        have HN := hid (sched_next l k h16)
        obtain ⟨w16a, w16b⟩ := sched_getD_w l k (k - 16)
        obtain ⟨w15a, w15b⟩ := sched_getD_w l k (k - 15)
        obtain ⟨w7a, w7b⟩ := sched_getD_w l k (k - 7)
        obtain ⟨w2a, w2b⟩ := sched_getD_w l k (k - 2)
        generalize (sched l k).getD (k - 16) 0 = x16 at *
        generalize (sched l k).getD (k - 15) 0 = x15 at *
        generalize (sched l k).getD (k - 7) 0 = x7 at *
        generalize (sched l k).getD (k - 2) 0 = x2 at *
        go_wp2_with fail
        go_quiet (fail)
        go_wp2_with fail
        rename_i nq _
        have e16 : IntKind.i64.wrap ((k : Int) - 16) = (k : Int) - 16 := IntWalk.i64_in _ (by omega)
        have e7 : IntKind.i64.wrap ((k : Int) - 7) = (k : Int) - 7 := IntWalk.i64_in _ (by omega)
        have p16 : (16 : Int) ≤ (k : Int) := by omega
        have p7 : (7 : Int) ≤ (k : Int) := by omega
        have q16 : (k : Int) - 16 < 64 := by omega
        have q7 : (k : Int) - 7 < 64 := by omega
        have t16 : ((k : Int) - 16).toNat = k - 16 := by omega
        have t7 : ((k : Int) - 7).toNat = k - 7 := by omega
        refine wp_region_still_tail 29 (by kernel_rfl) (by kernel_rfl) ?_
        simp only [List.take_succ_cons, List.take_zero, List.drop_succ_cons, List.drop_zero]
        change wpStill _ _ (World.drew _) _ _ _
        repeat (first | still_step | still_call (turn_c _ _ _ (by omega) (by omega)))
        refine wpStill_nil ?_
        clear e16 e7 p16 p7 q16 q7 t16 t7
        change wpList _ _ _ _ _ (World.drew _)
        go_wp2_with fail
        have hset := H.out.set (Nat.le_refl _) ((Fr.refl F0 wr).drewN (nq + 1)) hlt _ HN.out
        exact ⟨⟨k + 1, by omega, by go_num, hid hset⟩, by simp [intOf]; omega⟩
    · obtain rfl : k = 64 := by omega
      have hi : (Try.prog.info? 129).map (·.size) = some 64 := by kernel_rfl
      have hsz := arrW_size l 64 (by omega)
      have hone : (arrW l 64).all (·.oneCell') = true := arrW_one l 64
      have HH := H.out.1
      rw [← hsz] at hi
      have HI := hid hi
      have HF := hid H.out.2
      have HG := hid HH
      have HO := hid hone
      clear hi hsz hone HH H
      generalize hA : arrW l 64 = A at *
      have HA := hid hA
      clear hA
      go_wp2_with (first | (refine wpList_loadRow rfl 129 (.tmp 2) rfl w.heap.size rfl 129 A _ _ HG.out Try.underlying129 rfl HI.out ?_) | (refine wpList_storeRow rfl 129 (.tmp 2) (.tmp 56) rfl w.heap.size A A 129 HG.out rfl rfl rfl HI.out HO.out ?_))
      intro w2 hg2 hf2
      have HG2 := hid hg2
      have HF2 := hid (HF.out.trans hf2 (fun i hi e => by omega))
      clear hg2 hf2
      go_wp2_with fail
      exact bodyPost_ret (v := .agg A) (results_cell_row Try.results89 _ _ w.heap.size 129 A (0, 0) _ rfl HG2.out Try.underlying129 rfl HI.out) rfl ⟨by rw [HA.out], HF2.out⟩

end Go.Proofs.Ytfalaopljodmnaa
