/- linnetref1: Num, Word, Bytes, GetNum, GetBytes; linnetalike: Round, Sum. -/
import Derived.Test.YtfalaopljodmnaaRd3
import Derived.Deep.QuietTactic
namespace Go.Proofs.Ytfalaopljodmnaa
open Go.RowKit

theorem ret_int {k : IntKind} {a b : Int} (h : a = b) : Ending.returned (.int k a) = .returned (.int k b) := by rw [h]

theorem Ob.lit {w : World} {e : Nat} {cs : Array Value} (l : List UInt8) (h : cs.toList = l.map b8) (hl : l.length ≤ 140737488355328) : Ob (w.alloc (.cells cs e)) e (.slice (some ⟨w.heap.size, 0, none⟩) l.length l.length) l := by
  have hs : cs.size = l.length := by rw [← Array.length_toList, h, List.length_map]
  refine ⟨by simp, .inr ⟨w.heap.size, 0, l.length, cs, _, rfl, Nat.le_refl _, by unfold maxLen; omega, heap_alloc_last _ _, .inl rfl, by omega, fun j hj => ?_⟩⟩
  rw [Nat.zero_add, ← Array.getElem?_toList, h, List.getElem?_eq_getElem]

set_option maxRecDepth 100000 in
theorem refnum_c (n : Int) (w : World) (h0 : 0 ≤ n) :
    Calls Try.prog 60 #[.int .i64 n] w fun e w' => ∃ v', e = .returned v' ∧ Ob w' 5 v' (leB 4 n.toNat) ∧ Fr F0 w w' ∧ New w v' := by
  obtain ⟨n, rfl⟩ := Int.eq_ofNat_of_zero_le h0
  clear h0
  go_enter Try.func60, Try.ntmps60
  go_wp2_with fail
  go_ret
  have := Ob.lit (w := w) (e := 5) (leB 4 n) (cs := #[.int .u8 ((n : Int) % 256), .int .u8 ((n : Int) / 256 % 256), .int .u8 ((n : Int) / 65536 % 256), .int .u8 ((n : Int) / 16777216 % 256)]) (by
    simp [leB, b8, Nat.div_div_eq_div_mul]) (by simp [leB_length])
  exact ⟨_, rfl, by simpa [leB_length] using this, (Fr.refl _ _).alloc _, by intro k hk; simp [Value.ownBlock] at hk; omega⟩

set_option maxRecDepth 100000 in
set_option maxHeartbeats 800000 in
theorem refword_c (n : Int) (w : World) (h0 : 0 ≤ n) :
    Calls Try.prog 61 #[.int .u64 n] w fun e w' => ∃ v', e = .returned v' ∧ Ob w' 5 v' (leB 8 n.toNat) ∧ Fr F0 w w' ∧ New w v' := by
  obtain ⟨n, rfl⟩ := Int.eq_ofNat_of_zero_le h0
  clear h0
  go_enter Try.func61, Try.ntmps61
  go_wp2_with fail
  go_loopw [3, 4] (fun x i wr => ∃ (k : Nat) (v : Value), k ≤ 8 ∧ i = .int .i64 k ∧ v = x ∧ Hid (Ob wr 5 v (leB k n) ∧ Fr F0 w wr ∧ New w v)) (fun _ i _ => 8 - (intOf i).toNat)
  case atStart => exact ⟨0, _, by omega, rfl, rfl, Ob.nil _ _, Fr.refl _ _, New.nil _ _ _⟩
  case round =>
    obtain ⟨k, v, hk, rfl, rfl, H⟩ := hrel
    by_cases hlt : k < 8
    · go_wp2_with (at_builtin; refine wpList_appB rfl (.tmp 9) (.tmp 15) 25 rfl 5 Try.underlying25 infoB v (.slice (some ⟨wr.heap.size, 0, none⟩) 1 1) (leB k n) [UInt8.ofNat (n / 256 ^ k)] rfl rfl ?c1 ?c2 ?c3 ?_)
      case c1 => exact H.out.1.keep0 ((Fr.refl _ _).alloc _)
      case c2 => have := Rd.one wr (UInt8.ofNat (n / 256 ^ k)) 5; rw [b8_ofNat] at this; simpa [p256] using this
      case c3 => simp [leB_length]; omega
      intro v2 w1 ho hg hnew _
      have H1 : Hid (Ob w1 5 v2 (leB (k + 1) n) ∧ Fr F0 w w1 ∧ New w v2) := hid ⟨by rw [leB_succ]; exact ho, (H.out.2.1.alloc _).grown hg (fun i e hi => by have := H.out.2.2 i e; omega),
        fun i e => by have := H.out.2.1.size; rcases hnew i e with e | e; exact H.out.2.2 i e; omega⟩
      clear ho hg hnew
      go_wp2_with fail
      go_roundw
      case rel => exact ⟨k + 1, _, by omega, by go_num, rfl, H1⟩
      case measure => simp [intOf]; omega
    · go_wp2_with fail
      go_ret
      obtain rfl : k = 8 := by omega
      exact ⟨_, rfl, H.out⟩

set_option maxRecDepth 100000 in
set_option maxHeartbeats 800000 in
theorem refbytes_c (v : Value) (l : List UInt8) (w : World) (hr : Rd w v l) (hl : l.length ≤ 35184372088832) :
    Calls Try.prog 62 #[v] w fun e w' => ∃ v', e = .returned v' ∧ Ob w' 5 v' (leB 4 l.length ++ l) ∧ Fr F0 w w' ∧ New w v' := by
  obtain ⟨ao, c, rfl, hlc⟩ := hr.form
  have HR := hid hr
  clear hr
  go_enter Try.func62, Try.ntmps62
  go_wp2_with fail
  refine (refnum_c _ _ (by omega)).mono ?_
  rintro e w1 ⟨v1, rfl, h1, h2, h3⟩
  have H1 := hid h1
  have H2 := hid h2
  have H3 : Hid (New w v1) := hid h3
  clear h1 h2 h3
  go_wp2_with (at_builtin; refine wpList_appB rfl (.tmp 5) (.tmp 6) 25 rfl 5 Try.underlying25 infoB v1 _ (leB 4 l.length) l rfl rfl ?c1 ?c2 ?c3 ?_)
  case c1 => exact H1.out
  case c2 => exact HR.out.keep0 H2.out
  case c3 => simp [leB_length]; omega
  intro v2 w2 ho hg hnew _
  have H4 : Hid (Ob w2 5 v2 (leB 4 l.length ++ l) ∧ Fr F0 w w2 ∧ New w v2) := hid ⟨ho, H2.out.grown hg (fun i e hi => by have := H3.out i e; omega),
        fun i e => by have := H2.out.size; rcases hnew i e with e | e; exact H3.out i e; omega⟩
  clear ho hg hnew
  go_wp2_with fail
  go_ret
  exact ⟨_, rfl, H4.out⟩

theorem tmod_parts (k n : Int) (h0 : 0 < n) : (k.tmod n < 0 → k.tmod n + n = k % n) ∧ (0 ≤ k.tmod n → k.tmod n = k % n) ∧ -n < k.tmod n ∧ k.tmod n < n := by
  have h1 : k % n = k.tmod n % n := by
    conv => lhs; rw [← Int.mul_tdiv_add_tmod k n]
    rw [Int.add_comm, Int.add_mul_emod_self_left]
  have h2 := Int.lt_tmod_of_pos k h0
  have h3 := Int.tmod_lt_of_pos k h0
  refine ⟨fun h => ?_, fun h => ?_, h2, h3⟩
  · rw [h1, ← Int.add_emod_right, Int.emod_eq_of_lt (by omega) (by omega)]
  · rw [h1, Int.emod_eq_of_lt h h3]

theorem round_c (k n : Int) (w : World) (h0 : 0 < n) (h1 : n ≤ 1000000000000) :
    Calls Try.prog 22 #[.int .i64 k, .int .i64 n] w fun e w' => e = .returned (.int .i64 (k % n)) ∧ w = w' := by
  obtain ⟨p1, p2, p3, p4⟩ := tmod_parts k n h0
  have HP := hid (And.intro p1 p2)
  clear p1 p2
  by_cases ht : k.tmod n < 0
  · go_enter Try.func22, Try.ntmps22
    go_wp2_with fail
    go_ret
    exact ⟨ret_int (HP.out.1 ht), rfl⟩
  · go_enter Try.func22, Try.ntmps22
    go_wp2_with fail
    go_ret
    exact ⟨ret_int (HP.out.2 (by omega)), rfl⟩

/-- alike.Sum's answer. -/
def asum : Int → List Int → Int
  | n, [] => n
  | n, m :: ms => if 1099511627776 < n ∨ 1099511627776 - n < m then 1099511627776 else asum (n + m) ms

/-- 'v' is a []int that reads as l. -/
def Ri (w : World) (v : Value) (l : List Int) : Prop := Rg w 1 v l.length (l.map (Value.int .i64))

theorem Ri.form {w : World} {v : Value} {l : List Int} (h : Ri w v l) : ∃ ao c, v = .slice ao l.length c ∧ l.length ≤ c := Rg.form h

theorem Ri.open {w : World} {v : Value} {l : List Int} (h : Ri w v l) (hp : 0 < l.length) : ∃ b o c, v = .slice (some ⟨b, o, none⟩) l.length c ∧ l.length ≤ c ∧ ∀ (i : Nat) (u : Int), l[i]? = some u → w.cell? ⟨b, o + i, none⟩ = some (.int .i64 u) := by
  obtain ⟨_, ao, c, rfl, h1, _, _, h4⟩ := h
  obtain ⟨b, o, rfl, _, h6⟩ := h4 hp
  refine ⟨b, o, c, rfl, h1, fun i u hu => ?_⟩
  obtain ⟨hi, e⟩ := List.getElem?_eq_some_iff.1 hu
  rw [h6 i (by simpa using hi)]
  simp [e]

set_option maxRecDepth 100000 in
set_option maxHeartbeats 800000 in
theorem sum_c (v : Value) (n : Int) (ms : List Int) (w : World) (hr : Ri w v ms) (hp : 0 < ms.length) (hm : ∀ m ∈ ms, 0 ≤ m) (h0 : 0 ≤ n) (h1 : n ≤ 4611686018427387904) (hl : ms.length ≤ 1000000) :
    Calls Try.prog 32 #[.int .i64 n, v] w fun e w' => e = .returned (.int .i64 (asum n ms)) ∧ w = w' := by
  obtain ⟨b, o, c, rfl, hlc, hcell⟩ := hr.open hp
  have HC := hid hcell
  have HM := hid hm
  clear hr hcell hm
  go_enter Try.func32, Try.ntmps32
  go_wp2_with fail
  go_loop [0, 5] (fun x i => ∃ (k : Nat) (y : Int), k ≤ ms.length ∧ i = .int .i64 k ∧ x = .int .i64 y ∧ 0 ≤ y ∧ y ≤ 4611686018427387904 ∧ Hid (asum n ms = asum y (ms.drop k))) (fun _ i => ms.length - (intOf i).toNat)
  case atStart => exact ⟨0, n, by omega, rfl, rfl, h0, h1, hid (by simp)⟩
  case round =>
    obtain ⟨k, y, hk, rfl, rfl, hy0, hy1, H⟩ := hrel
    by_cases hlt : k < ms.length
    · obtain ⟨m, hm⟩ : ∃ m, ms[k]? = some m := ⟨_, List.getElem?_eq_getElem hlt⟩
      have hc := HC.out k m hm
      have m0 := HM.out m (List.mem_of_getElem? hm)
      have hd : ms.drop k = m :: ms.drop (k + 1) := by rw [List.drop_eq_getElem_cons hlt]; rw [List.getElem?_eq_getElem hlt] at hm; cases hm; rfl
      have H' := hid (H.out.trans (by rw [hd, asum]))
      clear H hm hd
      by_cases hb : 1099511627776 < y
      · go_wp2_with fail
        go_ret
        exact ⟨ret_int (by rw [H'.out, if_pos (.inl hb)]), rfl⟩
      · by_cases hb2 : 1099511627776 - y < m
        · go_wp2_with fail
          go_ret
          exact ⟨ret_int (by rw [H'.out, if_pos (.inr hb2)]), rfl⟩
        · go_wp2_with fail
          refine ⟨⟨k + 1, y + m, by omega, by go_num, rfl, by omega, by omega, hid (by rw [H'.out, if_neg (by omega)])⟩, by simp [intOf]; omega⟩
    · go_wp2_with fail
      go_ret
      obtain rfl : k = ms.length := by omega
      exact ⟨ret_int (by rw [H.out]; simp [asum]), rfl⟩

end Go.Proofs.Ytfalaopljodmnaa
