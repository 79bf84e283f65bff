/- linnetlaw3: small. -/
import Derived.Test.YtfalaopljodmnaaRef2
namespace Go.Proofs.Ytfalaopljodmnaa
open Go.RowKit

/-- linnetlaw3.Item. -/
structure It where
  kind : Int
  n : Int
  w : Nat
  s : ByteArray

/-- Its four cells, from place p of block b on. -/
structure ItAt (w : World) (b p : Nat) (x : It) : Prop where
  c0 : w.cell? ⟨b, p, none⟩ = some (.int .i64 x.kind)
  c1 : w.cell? ⟨b, p + 1, none⟩ = some (.int .i64 x.n)
  c2 : w.cell? ⟨b, p + 2, none⟩ = some (.int .u64 x.w)
  c3 : w.cell? ⟨b, p + 3, none⟩ = some (.string x.s)
  hs : x.s.size ≤ maxLen ∧ x.w < 18446744073709551616

/-- 'v' is a []Item that reads as l. -/
def Its (w : World) (v : Value) (l : List It) : Prop :=
  ∃ ao c, v = .slice ao l.length c ∧ l.length ≤ c ∧ l.length ≤ 140737488351232 ∧ ∀ i x, l[i]? = some x → ∃ b o, ao = some ⟨b, o, none⟩ ∧ b < w.heap.size ∧ ItAt w b (o + i * 4) x

theorem ItAt.keep0 {w w' : World} {b p : Nat} {x : It} (h : ItAt w b p x) (f : Fr F0 w w') (hb : b < w.heap.size) : ItAt w' b p x := by
  have k : ∀ q, w'.cell? ⟨b, q, none⟩ = w.cell? ⟨b, q, none⟩ := fun q => f.cell (p := ⟨b, q, none⟩) hb (fun e => e)
  exact ⟨(k _).trans h.c0, (k _).trans h.c1, (k _).trans h.c2, (k _).trans h.c3, h.hs⟩

theorem Its.keep0 {w w' : World} {v : Value} {l : List It} (h : Its w v l) (f : Fr F0 w w') : Its w' v l := by
  obtain ⟨ao, c, rfl, h1, h2, h3⟩ := h
  refine ⟨ao, c, rfl, h1, h2, fun i x hx => ?_⟩
  obtain ⟨b, o, rfl, h4, h5⟩ := h3 i x hx
  exact ⟨b, o, rfl, Nat.lt_of_lt_of_le h4 f.size, h5.keep0 f h4⟩

theorem Its.form {w : World} {v : Value} {l : List It} (h : Its w v l) : ∃ ao c, v = .slice ao l.length c ∧ l.length ≤ c ∧ l.length ≤ 140737488351232 ∧ ∀ i x, l[i]? = some x → ∃ b o, ao = some ⟨b, o, none⟩ ∧ b < w.heap.size ∧ ItAt w b (o + i * 4) x := h

/-- The items' weight. -/
def wsum : List It → Int
  | [] => 0
  | x :: l => x.s.size + 8 + wsum l

theorem wsum_nonneg (l : List It) : 0 ≤ wsum l := by
  induction l with
  | nil => simp [wsum]
  | cons x l ih => simp only [wsum]; omega

theorem wsum_append (l m : List It) : wsum (l ++ m) = wsum l + wsum m := by
  induction l with
  | nil => simp [wsum]
  | cons x l ih => simp only [List.cons_append, wsum, ih]; omega

theorem wsum_take (l : List It) (k : Nat) (x : It) (h : l[k]? = some x) : wsum (l.take (k + 1)) = wsum (l.take k) + x.s.size + 8 := by
  obtain ⟨hl, e⟩ := List.getElem?_eq_some_iff.1 h
  rw [List.take_succ_eq_append_getElem hl, wsum_append, e]
  simp only [wsum]; omega

theorem wsum_take_le (l : List It) (k : Nat) : wsum (l.take k) ≤ wsum l := by
  have := wsum_append (l.take k) (l.drop k)
  rw [List.take_append_drop] at this
  have := wsum_nonneg (l.drop k)
  omega

theorem asum_two (n m : Int) (h1 : n ≤ 1000) : asum n [m, 8] = if n + m + 8 ≤ 1000 then n + m + 8 else asum n [m, 8] := by
  split
  · simp only [asum]; rw [if_neg (by omega), if_neg (by omega)]
  · rfl

theorem asum_big (n m : Int) (h : 1000 < n + m + 8) : 1000 < asum n [m, 8] ∧ asum n [m, 8] ≤ 1099511627776 := by
  simp only [asum]
  split
  · omega
  · split <;> omega

theorem Ri.lit {w : World} {e : Nat} {cs : Array Value} (l : List Int) (h : cs.toList = l.map (Value.int .i64)) (hl : l.length ≤ 140737488355328) : Ri (w.alloc (.cells cs e)) (.slice (some ⟨w.heap.size, 0, none⟩) l.length l.length) l := by
  have hs : cs.size = l.length := by rw [← Array.length_toList, h, List.length_map]
  refine ⟨by simp, _, l.length, rfl, Nat.le_refl _, by unfold maxLen; omega, (fun h => by cases h), fun _ => ⟨w.heap.size, 0, rfl, by simp, fun j hj => ?_⟩⟩
  rw [Nat.zero_add, cell_at (heap_alloc_last _ _), ← Array.getElem?_toList, h, List.getElem?_eq_getElem]

set_option maxRecDepth 100000 in
set_option maxHeartbeats 800000 in
theorem small_c (v : Value) (l : List It) (w : World) (hr : Its w v l) :
    Calls Try.prog 15 #[v] w fun e w' => e = .returned (.bool (decide (wsum l ≤ 1000))) ∧ Fr F0 w w' := by
  obtain ⟨ao, c, rfl, hlc, hc2, hat⟩ := hr.form
  have HA := hid hat
  clear hr hat
  go_enter Try.func15, Try.ntmps15
  go_wp2_with fail
  go_loopw [3, 4] (fun x i wr => ∃ (k : Nat) (y : Int), k ≤ l.length ∧ i = .int .i64 k ∧ x = .int .i64 y ∧ 0 ≤ y ∧ y ≤ 1099511627776 ∧ Hid ((y ≤ 1000 → y = wsum (l.take k)) ∧ (1000 < y → 1000 < wsum (l.take k))) ∧ Hid (Fr F0 w wr)) (fun _ i _ => l.length - (intOf i).toNat)
  case atStart => exact ⟨0, 0, by omega, rfl, rfl, by omega, by omega, hid (by simp [wsum]), hid (Fr.refl _ _)⟩
  case round =>
    obtain ⟨k, y, hk, rfl, rfl, hy0, hy1, H, HF⟩ := hrel
    by_cases hlt : k < l.length
    · by_cases hy : y ≤ 1000
      · obtain ⟨x, hx⟩ : ∃ x, l[k]? = some x := ⟨_, List.getElem?_eq_getElem hlt⟩
        obtain ⟨b, o, rfl, hb, hi⟩ := HA.out k x hx
        have hc3 := (hi.keep0 HF.out hb).c3
        clear hi
        have HX := hid hx
        clear hx
        go_wp2_with fail
        refine (sum_c _ _ [(x.s.size : Int), 8] _ ?d1 (by simp) ?d2 hy0 (by omega) (by simp)).mono ?_
        case d1 =>
          have := Ri.lit (w := wr) (e := 3) [(x.s.size : Int), 8] (cs := #[.int .i64 x.s.size, .int .i64 8]) rfl (by simp)
          exact this
        case d2 => intro m hm; simp at hm; omega
        rintro e w1 ⟨rfl, rfl⟩
        have HF2 := hid (HF.out.alloc (.cells #[.int .i64 x.s.size, .int .i64 8] 3))
        have hstep := wsum_take l k x HX.out
        have hbig := asum_big y x.s.size
        have htwo := asum_two y x.s.size hy
        have h1 := H.out.1 hy
        have HS : Hid ((asum y [(x.s.size : Int), 8] ≤ 1000 → asum y [(x.s.size : Int), 8] = wsum (l.take (k + 1))) ∧ (1000 < asum y [(x.s.size : Int), 8] → 1000 < wsum (l.take (k + 1)))) := by
          by_cases hq : y + x.s.size + 8 ≤ 1000
          · rw [if_pos hq] at htwo
            exact ⟨fun _ => by omega, fun _ => by omega⟩
          · have := hbig (by omega)
            exact ⟨fun _ => by omega, fun _ => by omega⟩
        have hyn : 0 ≤ asum y [(x.s.size : Int), 8] ∧ asum y [(x.s.size : Int), 8] ≤ 1099511627776 := by
          by_cases hq : y + x.s.size + 8 ≤ 1000
          · rw [if_pos hq] at htwo; omega
          · have := hbig (by omega); omega
        obtain ⟨hy2, hy3⟩ := hyn
        generalize asum y [(x.s.size : Int), 8] = z at *
        clear hstep hbig htwo h1
        go_wp2_with fail
        go_roundw
        case rel => exact ⟨k + 1, z, by omega, by go_num, rfl, hy2, hy3, HS, HF2⟩
        case measure => simp [intOf]; omega
      · have hw : ¬ wsum l ≤ 1000 := by have := H.out.2 (by omega); have := wsum_take_le l k; omega
        go_wp2_with fail
        go_ret
        exact ⟨by simp [hw], HF.out⟩
    · obtain rfl : k = l.length := by omega
      have hw : decide (wsum l ≤ 1000) = decide (y ≤ 1000) := by
        have h := H.out
        rw [List.take_length] at h
        by_cases hq : y ≤ 1000
        · rw [← h.1 hq]
        · have := h.2 (by omega)
          simp only [decide_eq_decide]; omega
      have HW := hid hw
      clear hw
      go_wp2_with fail
      go_ret
      exact ⟨by rw [HW.out]; rfl, HF.out⟩

end Go.Proofs.Ytfalaopljodmnaa
