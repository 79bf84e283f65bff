/- SHA-256, the program's: the hasher's memory; first, start, Copy. -/
import Derived.Test.YtfalaopljodmnaaShaU
import Derived.Test.YtfalaopljodmnaaGrow
namespace Go.Proofs.Ytfalaopljodmnaa
open Go.RowKit

set_option maxRecDepth 100000 in
set_option maxHeartbeats 3200000 in
theorem first_c (w : World) : Calls Try.prog 87 #[] w fun e w' => e = .returned (.agg iv.arr) ∧ Fr F0 w w' := by
  go_enter Try.func87, Try.ntmps87
  go_wp2_with (refine wpList_storeRow rfl 134 (.tmp 0) (.tmp 1) rfl w.heap.size _ iv.arr 134 (heap_alloc_last _ _) rfl rfl rfl info8' (S8.one _) ?_)
  intro w2 hg2 hf2
  have HG := hid hg2
  have HF := hid (((Fr.refl F0 w).alloc _).trans hf2 (fun i hi e => by omega))
  clear hg2 hf2
  go_wp2_with fail
  exact bodyPost_ret (v := .agg iv.arr) (results_cell_row Try.results87 _ _ w.heap.size 134 iv.arr (0, 0) _ rfl HG.out Try.underlying134 rfl info8') rfl ⟨rfl, HF.out⟩

/-- A state, begun. -/
def begun (on : Bool) (s : S8) : S8 := bif on then s else iv

/-- A hasher's cells. -/
def hArr (s : S8) (on : Bool) (v : Value) (n : Int) : Array Value := #[.int .u32 s.a, .int .u32 s.b, .int .u32 s.c, .int .u32 s.d, .int .u32 s.e, .int .u32 s.f, .int .u32 s.g, .int .u32 s.h, .bool on, v, .int .i64 n]

theorem hArr_size (s : S8) (on : Bool) (v : Value) (n : Int) : (hArr s on v n).size = 11 := rfl
theorem S8.arr_len (t : S8) : t.arr.toList.length = 8 := rfl

theorem hArr_lo (t : S8) (on : Bool) (v : Value) (n : Int) : ∀ i, i < 8 → t.arr.toList[i]? = (hArr t on v n)[i]?
  | 0, _ => rfl | 1, _ => rfl | 2, _ => rfl | 3, _ => rfl | 4, _ => rfl | 5, _ => rfl | 6, _ => rfl | 7, _ => rfl
  | i + 8, h => by omega
theorem hArr_hi (s t : S8) (on : Bool) (v : Value) (n : Int) : ∀ i, 8 ≤ i → (hArr s on v n)[i]? = (hArr t on v n)[i]?
  | 0, h => by omega
  | 1, h => by omega
  | 2, h => by omega
  | 3, h => by omega
  | 4, h => by omega
  | 5, h => by omega
  | 6, h => by omega
  | 7, h => by omega
  | 8, _ => rfl | 9, _ => rfl | 10, _ => rfl
  | i + 11, _ => rfl

/-- The hasher in block hb. -/
def HB (w : World) (hb : Nat) (s : S8) (on : Bool) (v : Value) (n : Int) : Prop := w.heap[hb]? = some (.cells (hArr s on v n) 136 (0, 0))

theorem HB.c8 {w : World} {hb : Nat} {s : S8} {on : Bool} {v : Value} {n : Int} (h : HB w hb s on v n) : w.cell? ⟨hb, 8, none⟩ = some (.bool on) := by rw [cell_at h]; rfl
theorem HB.c9 {w : World} {hb : Nat} {s : S8} {on : Bool} {v : Value} {n : Int} (h : HB w hb s on v n) : w.cell? ⟨hb, 9, none⟩ = some v := by rw [cell_at h]; rfl
theorem HB.c10 {w : World} {hb : Nat} {s : S8} {on : Bool} {v : Value} {n : Int} (h : HB w hb s on v n) : w.cell? ⟨hb, 10, none⟩ = some (.int .i64 n) := by rw [cell_at h]; rfl
theorem HB.fz {w : World} {hb : Nat} {s : S8} {on : Bool} {v : Value} {n : Int} (h : HB w hb s on v n) (i : Nat) : w.frozen? ⟨hb, i, none⟩ = false := frozen_at h i
theorem HB.lt {w : World} {hb : Nat} {s : S8} {on : Bool} {v : Value} {n : Int} (h : HB w hb s on v n) : hb < w.heap.size := lt_of_heap h
theorem HB.keep {S : Nat → Prop} {w w' : World} {hb : Nat} {s : S8} {on : Bool} {v : Value} {n : Int} (h : HB w hb s on v n) (f : Fr S w w') (hn : ¬ S hb) : HB w' hb s on v n := f.heap h hn
theorem HB.set8 {w : World} {hb : Nat} {s : S8} {on : Bool} {v : Value} {n : Int} (h : HB w hb s on v n) (x : Bool) : HB (w.setCell ⟨hb, 8, none⟩ (.bool x)) hb s x v n := heap_setCell h 8 (.bool x)
theorem HB.set9 {w : World} {hb : Nat} {s : S8} {on : Bool} {v : Value} {n : Int} (h : HB w hb s on v n) (x : Value) : HB (w.setCell ⟨hb, 9, none⟩ x) hb s on x n := heap_setCell h 9 x
theorem HB.set10 {w : World} {hb : Nat} {s : S8} {on : Bool} {v : Value} {n : Int} (h : HB w hb s on v n) (x : Int) : HB (w.setCell ⟨hb, 10, none⟩ (.int .i64 x)) hb s on v x := heap_setCell h 10 (.int .i64 x)
theorem hArr_glue (s t : S8) (on : Bool) (v : Value) (n : Int) (cur : Array Value) (h3 : ∀ j, j < t.arr.toList.length → cur[0 + j]? = t.arr.toList[j]?)
    (h4 : ∀ j, j < 0 ∨ 0 + t.arr.toList.length ≤ j → cur[j]? = (hArr s on v n)[j]?) : cur = hArr t on v n := by
  rw [S8.arr_len] at h3 h4
  apply Array.ext_getElem?
  intro i
  by_cases hi : i < 8
  · have := h3 i hi
    rw [Nat.zero_add] at this
    rw [this]
    exact hArr_lo t on v n i hi
  · rw [h4 i (.inr (by omega))]
    exact hArr_hi s t on v n i (by omega)

theorem HB.set0 {w : World} {hb : Nat} {s : S8} {on : Bool} {v : Value} {n : Int} (h : HB w hb s on v n) (t : S8) : HB (w.setCells hb 0 t.arr.toList) hb t on v n := by
  have hl : 0 + t.arr.toList.length ≤ (hArr s on v n).size := by rw [hArr_size, S8.arr_len]; omega
  have hg := hArr_glue s t on v n
  unfold HB at *
  generalize t.arr.toList = L at *
  generalize hArr s on v n = A at *
  generalize hArr t on v n = B at *
  obtain ⟨cur', h1, _, h3, h4⟩ := heap_setCells hb L 0 w A h hl
  rw [h1, hg cur' h3 h4]
theorem HB.range {w : World} {hb : Nat} {s : S8} {on : Bool} {v : Value} {n : Int} (h : HB w hb s on v n) : w.rangeAt hb 0 s.arr.toList := by
  intro j u hu
  rw [Nat.zero_add, cell_at h]
  match j, hu with
  | 0, hu => exact hu | 1, hu => exact hu | 2, hu => exact hu | 3, hu => exact hu | 4, hu => exact hu | 5, hu => exact hu | 6, hu => exact hu | 7, hu => exact hu
  | j + 8, hu => exact absurd hu (by simp [S8.arr])
theorem HB.there {w : World} {hb : Nat} {s : S8} {on : Bool} {v : Value} {n : Int} (h : HB w hb s on v n) (t : S8) : w.there hb 0 t.arr.size := by
  intro j hj
  have hj : j < 8 := hj
  rw [Nat.zero_add]
  refine ⟨?_, h.fz j⟩
  rw [cell_at h]
  match j, hj with
  | 0, _ => rfl | 1, _ => rfl | 2, _ => rfl | 3, _ => rfl | 4, _ => rfl | 5, _ => rfl | 6, _ => rfl | 7, _ => rfl

/-- The state is stored. -/
theorem wpList_storeS {w : World} {ops : Array Oper} {rest : List Oper} {o : Oper} {a : Act} {Q : Exit → Act → World → Prop} (hgd : Region.wanted o (yielded ops a.tmps) = true) (x y : Operand) (ho : o.op = .store 134 x y)
    {hb : Nat} {s : S8} {on : Bool} {v : Value} {n : Int} (H : HB w hb s on v n) (t : S8) (hx : a.eval x = .pointer (some ⟨hb, 0, none⟩)) (hy : a.eval y = .agg t.arr)
    (h : ∀ w', HB w' hb t on v n → Fr (fun k => k = hb) w w' → wpList Try.prog ops Q rest (a.put o.dst undef) w') : wpList Try.prog ops Q (o :: rest) a w :=
  wpList_want hgd fun _ hK => wp_store_mid 134 x y ho hb 0 t.arr hx hy (H.there t) (info8 t) t.one (hK _ _ (h _ (H.set0 t) (Fr.setCells hb 0 t.arr.toList w)))

/-- The state is loaded. -/
theorem wpList_loadS {w : World} {ops : Array Oper} {rest : List Oper} {o : Oper} {a : Act} {Q : Exit → Act → World → Prop} (hgd : Region.wanted o (yielded ops a.tmps) = true) (x : Operand) (ho : o.op = .load 134 x)
    {hb : Nat} {s : S8} {on : Bool} {v : Value} {n : Int} (H : HB w hb s on v n) (hx : a.eval x = .pointer (some ⟨hb, 0, none⟩))
    (h : wpList Try.prog ops Q rest (a.put o.dst (.agg s.arr)) w) : wpList Try.prog ops Q (o :: rest) a w :=
  wpList_want hgd fun _ hK => wp_load_mid 134 x ho hb 0 hx s.arr.toList _ H.range Try.underlying134 rfl (info8 s) (hK _ _ h)

set_option maxRecDepth 100000 in
set_option maxHeartbeats 800000 in
theorem start_c (hb : Nat) (s : S8) (on : Bool) (v : Value) (n : Int) (w : World) (h : HB w hb s on v n) :
    Calls Try.prog 84 #[.pointer (some ⟨hb, 0, none⟩)] w fun e w' => e = .returned (.tuple #[]) ∧ HB w' hb (begun on s) true v n ∧ Fr (fun k => k = hb) w w' := by
  have H := hid h
  have c8 := h.c8
  clear h
  cases on with
  | true =>
    go_enter Try.func84, Try.ntmps84
    go_wp2_with fail
    go_end0
    exact ⟨rfl, H.out, Fr.refl _ _⟩
  | false =>
    go_enter Try.func84, Try.ntmps84
    go_wp2_with fail
    refine (first_c _).mono ?_
    rintro e w1 ⟨rfl, f⟩
    have H1 := hid (H.out.keep f (fun e => e))
    have F1 := hid f
    clear f
    go_wp2_with (refine wpList_storeS rfl (.tmp 11) (.tmp 9) rfl H1.out iv rfl rfl ?_)
    intro w2 h2 f2
    have q8 := h2.c8
    have qf := h2.fz 8
    have H2 := hid (h2.set8 true)
    have F2 := hid (((Fr.mono F1.out (S' := fun k => k = hb) (fun _ _ e => e.elim)).trans f2 (fun _ _ e => e)).setCell (p := ⟨hb, 8, none⟩) (fun _ => rfl) (.bool true))
    clear h2 f2
    go_wp2_with fail
    go_end0
    exact ⟨rfl, H2.out, F2.out⟩

/-- A copy of a hasher. -/
def Copied (w : World) (s : S8) (n : Int) (l : List UInt8) (e : Ending) (w' : World) : Prop :=
  ∃ nb v', e = .returned (.pointer (some ⟨nb, 0, none⟩)) ∧ HB w' nb s true v' n ∧ Rd w' v' l ∧ Fr F0 w w' ∧ w.heap.size ≤ nb ∧ ∀ k, v'.ownBlock = some k → k ≠ nb

theorem infoH : (Try.prog.info? 136).map (·.size) = some 11 := by kernel_rfl
theorem infoHA (s : S8) (on : Bool) (v : Value) (n : Int) : (Try.prog.info? 136).map (·.size) = some (hArr s on v n).size := infoH
theorem hArr_one (s : S8) (on : Bool) (v : Value) (n : Int) (hv : v.oneCell' = true) : (hArr s on v n).all (·.oneCell') = true := by
  rw [Array.all_eq_true_iff_forall_mem]
  intro x hx
  simp only [hArr, List.mem_toArray, List.mem_cons, List.not_mem_nil, or_false] at hx
  rcases hx with rfl | rfl | rfl | rfl | rfl | rfl | rfl | rfl | rfl | rfl | rfl
  all_goals first | exact hv | rfl

set_option maxRecDepth 100000 in
set_option maxHeartbeats 1600000 in
theorem copy_c (hb : Nat) (s : S8) (on : Bool) (v : Value) (n : Int) (l : List UInt8) (w : World) (h : HB w hb s on v n) (hr : Rd w v l) (hl : l.length ≤ 70368744177664) :
    Calls Try.prog 86 #[.pointer (some ⟨hb, 0, none⟩)] w fun e w' => Copied w (begun on s) n l e w' := by
  obtain ⟨ao, c, rfl, _⟩ := hr.form
  have H := hid h
  have HR := hid hr
  have HL := hid hl
  clear h hr hl
  go_enter Try.func86, Try.ntmps86
  have HI := hid (infoHA s on (.slice ao l.length c) n)
  have HO := hid (hArr_one s on (.slice ao l.length c) n rfl)
  have HG : Hid (w.heap[hb]? = some (.cells (hArr s on (.slice ao l.length c) n) 136 (0, 0))) := H
  have HS : Hid ((hArr s on (.slice ao l.length c) n).size = 11) := hid rfl
  obtain ⟨A, HA⟩ : ∃ A, Hid (hArr s on (.slice ao l.length c) n = A) := ⟨_, hid rfl⟩
  rw [HA.out] at HI HO HG HS
  go_wp2_with (first | (refine wpList_loadRow rfl 136 (.tmp 7) rfl hb rfl 136 A _ _ HG.out Try.underlying136 rfl HI.out ?_) | (refine wpList_storeRow rfl 136 (.tmp 3) (.tmp 8) rfl w.heap.size _ A 136 (heap_alloc_last _ _) rfl rfl HS.out HI.out HO.out ?_))
  intro w2 hg2 hf2
  have H2 : HB w2 w.heap.size s on (.slice ao l.length c) n := by unfold HB; rw [HA.out]; exact hg2
  have H2 := hid H2
  have F2 := hid (((Fr.refl F0 w).alloc _).trans hf2 (fun i hi e => by omega))
  have c9 := (H.out.keep F2.out (fun e => e)).c9
  clear hg2 hf2 HG HO HI HS HA
  go_wp2_with fail
  refine (clone_c _ l _ (HR.out.keep0 F2.out) HL.out).mono ?_
  rintro e w3 ⟨v3, rfl, h3, f3, n3, -⟩
  have q9 := (H2.out.keep f3 (fun e => e)).c9
  have qf := (H2.out.keep f3 (fun e => e)).fz 9
  have H3 := hid ((H2.out.keep f3 (fun e => e)).set9 v3)
  have hne : ∀ k, v3.ownBlock = some k → k ≠ w.heap.size := fun k hk => by have := n3 k hk; have := H2.out.lt; omega
  have R3 := hid (h3.keep ((Fr.refl (fun k => k = w.heap.size) w3).setCell (p := ⟨w.heap.size, 9, none⟩) (fun _ => rfl) v3) hne)
  have F3 := hid ((F2.out.trans f3 (fun _ _ e => e)).setCell (p := ⟨w.heap.size, 9, none⟩) (fun hi => by have hi : w.heap.size < w.heap.size := hi; omega) v3)
  have HN := hid hne
  obtain ⟨a3, m3, c3, rfl⟩ := h3.form
  clear h3 f3 n3 H2 F2 hne
  go_wp2_with fail
  refine (start_c _ s on _ n _ H3.out).mono ?_
  rintro e w4 ⟨rfl, h4, f4⟩
  have H4 := hid h4
  have R4 := hid (R3.out.keep f4 HN.out)
  have F4 := hid (F3.out.trans f4 (fun i hi e => by omega))
  clear h4 f4
  go_wp2_with fail
  go_ret
  exact ⟨_, _, rfl, H4.out, R4.out.rd, F4.out, Nat.le_refl _, HN.out⟩

end Go.Proofs.Ytfalaopljodmnaa
