/- slices.Grow of nil, slices.Concat of byte slices. -/
import Derived.Test.YtfalaopljodmnaaWr2
import Derived.Lib.AppendZeros
namespace Go.Proofs.Ytfalaopljodmnaa
open Go.RowKit

/-- A new row of zeros, of which none is told. -/
theorem Ob.zeros (w : World) (e n : Nat) (hn : n ≤ 140737488355328) (h0 : 0 < n) :
    Ob (w.drew.alloc (.cells (Builtin.zeroCells (Value.int .u8 0).cells n ++ Builtin.zeroCells (Value.int .u8 0).cells (grownCap w n 0 e - n)) e)) e (.slice (some ⟨w.heap.size, 0, none⟩) 0 (grownCap w n 0 e)) [] := by
  have hge := grownCap_ge w n 0 e
  refine ⟨rfl, .inr ⟨w.heap.size, 0, grownCap w n 0 e, _, _, rfl, Nat.zero_le _, grownCap_le_maxLen w n 0 e (by unfold maxLen; omega), heap_alloc_new w.drew _, .inl rfl, ?_, fun j hj => by simp at hj⟩⟩
  simp only [Array.size_append, size_zeroCells]
  have : (Value.int .u8 0).cells.size = 1 := rfl
  rw [this]
  omega

set_option maxRecDepth 100000 in
theorem grow_c (n : Nat) (w : World) (hn : n ≤ 140737488355328) :
    Calls Try.prog 83 #[.slice none 0 0, .int .i64 n] w fun e w' => ∃ v, e = .returned v ∧ Ob w' 5 v [] ∧ Fr F0 w w' ∧ New w v := by
  by_cases h0 : n = 0
  · subst h0
    go_enter Try.func83, Try.ntmps83
    go_wp2_with fail
    go_ret
    exact ⟨_, rfl, Ob.nil _ _, Fr.refl _ _, New.nil _ _ _⟩
  · have hp : (0 : Int) < (n : Int) := by omega
    have hnn : ¬ (n : Int) < 0 := by omega
    obtain ⟨i0, hi, hz0, hz1, hz2⟩ := info_parts (P := Try.prog) (e := 5) infoB
    have HRUN := hid (Lib.run_append_nil_zeros (P := Try.prog) w 25 3 25 5 i0 _ .i64 .i64 Try.underlying25 Try.underlying3 hi hz0 n (by omega) (by omega) (by omega) (by rw [hz2]; omega))
    have HO := hid (Ob.zeros w 5 n hn (by omega))
    have HG := hid (grownCap_ge w n 0 5)
    generalize grownCap w n 0 5 = c at *
    clear hi hz0 hz1 hz2
    go_enter Try.func83, Try.ntmps83
    go_wp2_with (at_builtin; refine Lib.wpList_append_run _ rfl _ _ _ _ rfl _ _ rfl rfl _ _ HRUN.out ?_)
    go_ret
    exact ⟨_, rfl, HO.out, ((Fr.refl F0 w).drew).alloc _, fun k hk => by simp [Value.ownBlock] at hk; omega⟩

/-- 'v' is a [][]byte that reads as ls. -/
def LL (w : World) (v : Value) (ls : List (List UInt8)) : Prop := ∃ vs : List Value, Rg w 1 v ls.length vs ∧ ∀ (i : Nat) (l : List UInt8), ls[i]? = some l → ∃ u, vs[i]? = some u ∧ Rd w u l

theorem LL.keep0 {w w' : World} {v : Value} {ls : List (List UInt8)} (h : LL w v ls) (f : Fr F0 w w') : LL w' v ls := by
  obtain ⟨vs, h1, h2⟩ := h
  exact ⟨vs, h1.keep f (fun _ _ e => e), fun i l hl => let ⟨u, h3, h4⟩ := h2 i l hl; ⟨u, h3, h4.keep0 f⟩⟩

theorem LL.form {w : World} {v : Value} {ls : List (List UInt8)} (h : LL w v ls) : ∃ ao c, v = .slice ao ls.length c ∧ ls.length ≤ 9223372036854775807 ∧
    ∀ (k : Nat) (l : List UInt8), ls[k]? = some l → ∃ b o ao' c', ao = some ⟨b, o, none⟩ ∧ w.cell? ⟨b, o + k, none⟩ = some (.slice ao' l.length c') ∧ b < w.heap.size ∧ Rd w (.slice ao' l.length c') l := by
  obtain ⟨vs, ⟨h0, ao, c, rfl, h1, hm, _, h4⟩, h5⟩ := h
  refine ⟨ao, c, rfl, by unfold maxLen at hm; omega, fun k l hl => ?_⟩
  obtain ⟨hk, _⟩ := List.getElem?_eq_some_iff.1 hl
  obtain ⟨b, o, rfl, hb, h6⟩ := h4 (by omega)
  obtain ⟨u, hu, hr⟩ := h5 k l hl
  obtain ⟨ao', c', rfl, _⟩ := hr.form
  obtain ⟨hk', e⟩ := List.getElem?_eq_some_iff.1 hu
  exact ⟨b, o, ao', c', rfl, by rw [h6 k hk', e], hb, hr⟩

theorem flatten_step {ls : List (List UInt8)} {k : Nat} {l : List UInt8} (h : ls[k]? = some l) : (ls.take (k + 1)).flatten = (ls.take k).flatten ++ l := by
  rw [List.take_add_one, h]; simp

theorem flatten_le (ls : List (List UInt8)) (k : Nat) : (ls.take k).flatten.length ≤ ls.flatten.length := by
  have := congrArg List.length (congrArg List.flatten (List.take_append_drop k ls))
  simp only [List.flatten_append, List.length_append] at this
  omega

set_option maxRecDepth 100000 in
set_option maxHeartbeats 1600000 in
theorem concat_c (v : Value) (ls : List (List UInt8)) (w : World) (hr : LL w v ls) (hn : ls.flatten.length ≤ 140737488355328) :
    Calls Try.prog 78 #[v] w fun e w' => ∃ r, e = .returned r ∧ Ob w' 5 r ls.flatten ∧ Fr F0 w w' ∧ New w r := by
  obtain ⟨ao, c, rfl, hlc, hat⟩ := hr.form
  have HA := hid hat
  have HN := hid hn
  clear hr hat hn
  go_enter Try.func78, Try.ntmps78
  go_wp2_with fail
  go_loopw [3, 11] (fun s i wr => ∃ k : Nat, k ≤ ls.length ∧ i = .int .i64 k ∧ s = .int .i64 ((ls.take k).flatten.length : Int) ∧ Hid (Fr F0 w wr)) (fun _ i _ => ls.length - (intOf i).toNat)
  case atStart => exact ⟨0, by omega, rfl, rfl, hid (Fr.refl _ _)⟩
  case round =>
    obtain ⟨k, hk, rfl, rfl, HF⟩ := hrel
    by_cases hlt : k < ls.length
    · obtain ⟨x, hx⟩ : ∃ x, ls[k]? = some x := ⟨_, List.getElem?_eq_getElem hlt⟩
      obtain ⟨b, o, ao', c', rfl, hc, hb, hrd⟩ := HA.out k x hx
      have hc2 := (HF.out.cell (p := ⟨b, o + k, none⟩) hb (fun e => e)).trans hc
      have hs := congrArg List.length (flatten_step hx)
      have hle := flatten_le ls (k + 1)
      have hle2 := HN.out
      rw [List.length_append] at hs
      have HS := hid (congrArg (fun n : Nat => (n : Int)) hs)
      rw [hs] at hle
      clear hx hc hrd hs
      generalize (ls.take k).flatten.length = y at *
      generalize x.length = z at *
      go_wp2_with fail
      exact ⟨⟨k + 1, by omega, by go_num, by rw [HS.out]; go_num, HF⟩, by simp [intOf]; omega⟩
    · have e : k = ls.length := by omega
      have hall : (ls.take k).flatten = ls.flatten := by rw [e, List.take_length]
      have hge : ¬ (k : Int) < (ls.length : Int) := by omega
      rw [hall]
      clear e hall
      obtain ⟨T, HT⟩ : ∃ T : Nat, Hid (ls.flatten.length = T) := ⟨_, hid rfl⟩
      rw [HT.out]
      rw [HT.out] at HN
      go_wp2_with fail
      refine (grow_c T _ HN.out).mono ?_
      rintro e w1 ⟨v1, rfl, h1, f1, n1⟩
      obtain ⟨a1, m1, c1, rfl⟩ := h1.form
      have F1 := hid (HF.out.trans f1 (fun _ _ e => e))
      have H1 := hid h1
      have N1 := hid (show New w _ from fun k hk => Nat.le_trans HF.out.size (n1 k hk))
      clear h1 f1 n1 HF
      go_wp2_with fail
      go_loopw [6, 27] (fun s i wr => ∃ k : Nat, k ≤ ls.length ∧ i = .int .i64 k ∧ ∃ a' m' c', s = .slice a' m' c' ∧ Hid (Ob wr 5 (.slice a' m' c') (ls.take k).flatten ∧ Fr F0 w wr ∧ New w (.slice a' m' c'))) (fun _ i _ => ls.length - (intOf i).toNat)
      case atStart => exact ⟨0, by omega, rfl, _, _, _, rfl, hid ⟨H1.out, F1.out, N1.out⟩⟩
      case round =>
        clear H1 F1 N1
        obtain ⟨k, hk, rfl, a2, m2, c2, rfl, H2⟩ := hrel
        by_cases hlt : k < ls.length
        · obtain ⟨x, hx⟩ : ∃ x, ls[k]? = some x := ⟨_, List.getElem?_eq_getElem hlt⟩
          obtain ⟨b, o, ao', c', rfl, hc, hb, hrd⟩ := HA.out k x hx
          have hc2 := (H2.out.2.1.cell (p := ⟨b, o + k, none⟩) hb (fun e => e)).trans hc
          have HRD := hid (hrd.keep0 H2.out.2.1)
          have HS := hid (flatten_step hx)
          have HL := hid (show (ls.take k).flatten.length + x.length ≤ 140737488355328 from by
            have hle := flatten_le ls (k + 1)
            have := HT.out
            have := HN.out
            rw [HS.out, List.length_append] at hle
            omega)
          have hxl : x.length = x.length := rfl
          clear hx hc hrd
          go_wp2_with (at_builtin; refine wpList_appB rfl (.tmp 31) (.tmp 32) 25 rfl 5 Try.underlying25 infoB _ _ (ls.take k).flatten x rfl rfl H2.out.1 HRD.out HL.out ?_)
          intro v3 w3 h3 g3 e3 _
          obtain ⟨a3, m3, c3, rfl⟩ := h3.form
          have F3 := Fr.trans H2.out.2.1 (Fr.of_grown g3) (S' := fun k => Value.ownBlock (.slice a2 m2 c2) = some k) (fun i hi e => by have := H2.out.2.2 i e; omega)
          have H3 := hid (show Ob w3 5 (.slice a3 m3 c3) (ls.take (k + 1)).flatten ∧ Fr F0 w w3 ∧ New w (.slice a3 m3 c3) from ⟨by rw [HS.out]; exact h3, F3, fun j hj => (e3 j hj).elim (fun h => H2.out.2.2 j h) (fun h => Nat.le_trans H2.out.2.1.size h)⟩)
          clear h3 g3 e3 F3
          go_wp2_with fail
          exact ⟨⟨k + 1, by omega, by go_num, _, _, _, rfl, H3⟩, by simp [intOf]; omega⟩
        · have e : k = ls.length := by omega
          have hge : ¬ (k : Int) < (ls.length : Int) := by omega
          have H3 := hid (show Ob wr 5 (.slice a2 m2 c2) ls.flatten from by have := H2.out.1; rw [e, List.take_length] at this; exact this)
          go_wp2_with fail
          go_ret
          exact ⟨_, rfl, H3.out, H2.out.2.1, H2.out.2.2⟩

end Go.Proofs.Ytfalaopljodmnaa
