/- SHA-256, the program's: digest.Sum. -/
import Derived.Test.YtfalaopljodmnaaHash3
namespace Go.Proofs.Ytfalaopljodmnaa
open Go.RowKit

/-- SHA-256. -/
def sha (m : List UInt8) : List UInt8 := outN (blk iv (m ++ padOf m.length) ((m ++ padOf m.length).length / 64)) 8

theorem sha_len (m : List UInt8) : (sha m).length = 32 := outN_len _ 8

theorem blk_add (s : S8) (M : List UInt8) (i : Nat) : ∀ j, blk s M (i + j) = blk (blk s M i) (M.drop (64 * i)) j
  | 0 => rfl
  | j + 1 => by
    rw [← Nat.add_assoc, blk, blk, blk_add s M i j, List.drop_drop, Nat.mul_add]

theorem blk_app (s : S8) (m r : List UInt8) : ∀ k, 64 * k ≤ m.length → blk s (m ++ r) k = blk s m k
  | 0, _ => rfl
  | k + 1, h => by
    rw [blk, blk, blk_app s m r k (by omega), List.drop_append_of_le_length (by omega), List.take_append_of_le_length (by rw [List.length_drop]; omega)]

/-- What was taken in already, and what comes. -/
theorem blk_more (s : S8) (m r : List UInt8) : blk (blk s m (m.length / 64)) (m.drop (64 * (m.length / 64)) ++ r) ((m.drop (64 * (m.length / 64)) ++ r).length / 64) = blk s (m ++ r) ((m ++ r).length / 64) := by
  have hq : 64 * (m.length / 64) ≤ m.length := Nat.mul_div_le ..
  have e1 : (m ++ r).length / 64 = m.length / 64 + (m.drop (64 * (m.length / 64)) ++ r).length / 64 := by
    simp only [List.length_append, List.length_drop]
    omega
  rw [e1, blk_add, blk_app s m r _ hq, List.drop_append_of_le_length hq]

theorem drop_more (m r : List UInt8) : (m.drop (64 * (m.length / 64)) ++ r).drop (64 * ((m.drop (64 * (m.length / 64)) ++ r).length / 64)) = (m ++ r).drop (64 * ((m ++ r).length / 64)) := by
  have hq : 64 * (m.length / 64) ≤ m.length := Nat.mul_div_le ..
  have e1 : 64 * ((m ++ r).length / 64) = 64 * (m.length / 64) + 64 * ((m.drop (64 * (m.length / 64)) ++ r).length / 64) := by
    simp only [List.length_append, List.length_drop]
    omega
  rw [e1, ← List.drop_drop, List.drop_append_of_le_length hq]

/-- The zero state. -/
def zS : S8 := ⟨0, 0, 0, 0, 0, 0, 0, 0⟩
theorem zS_ok : zS.ok := by unfold zS S8.ok W32; simp

/-- A hasher that has taken m in. -/
def HM (w : World) (hb : Nat) (on : Bool) (m : List UInt8) : Prop :=
  ∃ s v, HB w hb s on v m.length ∧ s.ok ∧ begun on s = blk iv m (m.length / 64) ∧ Rd w v (m.drop (64 * (m.length / 64))) ∧ ∀ k, rblk v = some k → k ≠ hb

theorem HM.zero {w : World} {hb : Nat} (h : HB w hb zS false (.slice none 0 0) 0) : HM w hb false [] :=
  ⟨zS, _, h, zS_ok, rfl, Rd.nil w, fun k hk => by simp [rblk] at hk⟩

set_option maxHeartbeats 800000 in
theorem addM_c (hb : Nat) (on : Bool) (x : Value) (m l : List UInt8) (w : World) (h : HM w hb on m) (hx : Rd w x l) (bx : ∀ k, rblk x = some k → k ≠ hb) (hl : m.length + l.length ≤ 35184372088832) :
    Calls Try.prog 81 #[.pointer (some ⟨hb, 0, none⟩), x] w fun e w' => e = .returned (.pointer (some ⟨hb, 0, none⟩)) ∧ HM w' hb true (m ++ l) ∧ Fr (fun k => k = hb) w w' := by
  obtain ⟨s, v, h1, h2, h3, h4, h5⟩ := h
  refine (add_c hb s on v x m.length _ l w h1 h2 h4 hx h5 bx (by rw [List.length_drop]; omega) (by omega) (by omega)).mono ?_
  rintro e w' ⟨rfl, v', g1, g2, g3, g4⟩
  rw [h3, blk_more, show (m.length : Int) + (l.length : Int) = ((m ++ l).length : Nat) from by simp] at g1
  rw [drop_more] at g2
  exact ⟨rfl, ⟨_, v', g1, blk_ok (by unfold iv S8.ok W32; simp) _ _, rfl, g2, fun k hk => g3 k (rblk_own hk)⟩, g4⟩

theorem sumM_c (hb : Nat) (m : List UInt8) (w : World) (h : HM w hb true m) (hl : m.length ≤ 35184372088832) :
    Calls Try.prog 82 #[.pointer (some ⟨hb, 0, none⟩)] w fun e w' => ∃ r, e = .returned r ∧ Ob w' 5 r (sha m) ∧ Fr F0 w w' ∧ New w r := by
  obtain ⟨s, v, h1, h2, h3, h4, h5⟩ := h
  refine (hsum_c hb s v m.length _ w h1 h2 h4 (by rw [List.length_drop]; omega) hl).mono ?_
  rintro e w' ⟨r, rfl, g1, g2, g3⟩
  have h3 : s = blk iv m (m.length / 64) := h3
  rw [h3, blk_more] at g1
  exact ⟨r, rfl, g1, g2, g3⟩

set_option maxRecDepth 100000 in
set_option maxHeartbeats 1600000 in
theorem dsum_c (v : Value) (ls : List (List UInt8)) (w : World) (hr : LL w v ls) (hp : 0 < ls.length) (hn : ls.flatten.length ≤ 35184372088832) :
    Calls Try.prog 77 #[v] w fun e w' => ∃ r, e = .returned r ∧ Ob w' 5 r (sha ls.flatten) ∧ Fr F0 w w' ∧ New w r := by
  obtain ⟨ao, c, rfl, hlc, hat⟩ := hr.form
  have HA := hid hat
  have HN := hid hn
  have HP := hid hp
  clear hr hat hn hp
  go_enter Try.func77, Try.ntmps77
  go_wp2_with fail
  have HZ := hid (HM.zero (w := w.alloc (.cells (hArr zS false (.slice none 0 0) 0) 136)) (hb := w.heap.size) (heap_alloc_last _ _))
  go_loopw [10] (fun i wr => ∃ k : Nat, k ≤ ls.length ∧ i = .int .i64 k ∧ Hid (HM wr w.heap.size (decide (0 < k)) (ls.take k).flatten ∧ Fr F0 w wr)) (fun i _ => ls.length - (intOf i).toNat)
  case atStart => exact ⟨0, by omega, rfl, hid ⟨HZ.out, (Fr.refl _ _).alloc _⟩⟩
  case round =>
    clear HZ
    obtain ⟨k, hk, rfl, H⟩ := hrel
    by_cases hlt : k < ls.length
    · obtain ⟨x, hx⟩ : ∃ x, ls[k]? = some x := ⟨_, List.getElem?_eq_getElem hlt⟩
      obtain ⟨b, o, ao', c', rfl, hc, hb, hrd⟩ := HA.out k x hx
      have hc2 := (H.out.2.cell (p := ⟨b, o + k, none⟩) hb (fun e => e)).trans hc
      have HRD := hid (hrd.keep0 H.out.2)
      have HLT := hid hrd.lt
      have HS := hid (flatten_step hx)
      have HL := hid (show (ls.take k).flatten.length + x.length ≤ 35184372088832 from by
        have hle := flatten_le ls (k + 1)
        have := HN.out
        rw [HS.out, List.length_append] at hle
        omega)
      clear hx hc hrd
      go_wp2_with fail
      refine (addM_c w.heap.size _ _ (ls.take k).flatten x _ H.out.1 HRD.out (fun k hk e => by have := HLT.out k hk; omega) HL.out).mono ?_
      rintro e w1 ⟨rfl, h1, f1⟩
      have H1 := hid (show HM w1 w.heap.size (decide (0 < k + 1)) (ls.take (k + 1)).flatten ∧ Fr F0 w w1 from ⟨by rw [HS.out]; simpa using h1, Fr.trans H.out.2 f1 (fun i hi e => by omega)⟩)
      clear h1 f1
      go_wp2_with fail
      exact ⟨⟨k + 1, by omega, by go_num, H1⟩, by simp [intOf]; omega⟩
    · have e : k = ls.length := by omega
      have hge : ¬ (k : Int) < (ls.length : Int) := by omega
      have H1 := hid (show HM wr w.heap.size true ls.flatten from by have := H.out.1; rw [e, List.take_length, decide_eq_true HP.out] at this; exact this)
      have F1 := hid H.out.2
      clear e H
      go_wp2_with fail
      refine (sumM_c w.heap.size ls.flatten _ H1.out HN.out).mono ?_
      rintro e w2 ⟨r, rfl, h2, f2, n2⟩
      obtain ⟨ar, mr, cr, rfl⟩ := h2.form
      have H2 := hid (show Ob w2 5 (.slice ar mr cr) (sha ls.flatten) ∧ Fr F0 w w2 ∧ New w (.slice ar mr cr) from ⟨h2, F1.out.trans f2 (fun _ _ e => e), fun k hk => Nat.le_trans F1.out.size (n2 k hk)⟩)
      clear h2 f2 n2
      go_wp2_with fail
      go_ret
      exact ⟨_, rfl, H2.out⟩

end Go.Proofs.Ytfalaopljodmnaa
