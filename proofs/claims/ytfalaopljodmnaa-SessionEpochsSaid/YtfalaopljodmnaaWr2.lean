/- slices.Clone of bytes; codec.Writer's Bytes, Text, Done. -/
import Derived.Test.YtfalaopljodmnaaWr
namespace Go.Proofs.Ytfalaopljodmnaa
open Go.RowKit

theorem str_ty : Try.prog.underlying 9 = some .string := Try.underlying9

set_option maxRecDepth 100000 in
set_option maxHeartbeats 800000 in
theorem clone_c (v : Value) (l : List UInt8) (w : World) (hr : Rd w v l) (hl : l.length ≤ 70368744177664) :
    Calls Try.prog 63 #[v] w fun e w' => ∃ v', e = .returned v' ∧ Ob w' 5 v' l ∧ Fr F0 w w' ∧ New w v' ∧ (v' = .slice none 0 0 ↔ v = .slice none 0 0) := by
  obtain ⟨_, ao, c, rfl, hlc, _, hz, _⟩ := id hr
  cases ao with
  | none =>
    obtain rfl := hz rfl
    obtain rfl : l = [] := List.eq_nil_of_length_eq_zero (by omega)
    clear hr hz
    have hq := fun (w : World) => Lib.run_eql_slice_nil (P := Try.prog) w 25 5 none 0 0 0 0 Try.underlying25
    go_enter Try.func63, Try.ntmps63
    go_wp2_with fail
    go_ret
    exact ⟨_, rfl, Ob.nil _ _, Fr.refl _ _, New.nil _ _ _, by simp⟩
  | some ad =>
    have HR := hid hr
    have HL := hid hl
    clear hr hl hz
    have hq := fun (w : World) => Lib.run_eql_slice_nil (P := Try.prog) w 25 5 (some ad) l.length c 0 0 Try.underlying25
    go_enter Try.func63, Try.ntmps63
    go_wp2_with (at_builtin; refine wpList_appB rfl (.tmp 5) (.tmp 6) 25 rfl 5 Try.underlying25 infoB (.slice (some ⟨w.heap.size, 0, none⟩) 0 0) (.slice (some ad) l.length c) [] l rfl rfl ?c1 ?c2 ?c3 ?_)
    case c1 => exact ⟨rfl, .inr ⟨w.heap.size, 0, 0, _, _, rfl, Nat.le_refl _, Nat.zero_le _, heap_alloc_last _ _, .inl rfl, by simp, fun j hj => by simp at hj⟩⟩
    case c2 => exact HR.out.keep0 ((Fr.refl _ _).alloc _)
    case c3 => have := HL.out; simp; omega
    intro v' w1 ho hg hn hz
    have H : Hid (Ob w1 5 v' l ∧ Fr F0 w w1 ∧ New w v' ∧ v' ≠ .slice none 0 0) := hid ⟨by simpa using ho, ((Fr.refl _ _).alloc _).grown hg (fun k hk h => by simp [Value.ownBlock] at hk; omega),
      fun k hk => by rcases hn k hk with h | h; (simp [Value.ownBlock] at h; omega); omega, by simpa using hz⟩
    clear ho hg hn hz
    go_wp2_with fail
    go_ret
    exact ⟨_, rfl, H.out.1, H.out.2.1, H.out.2.2.1, by simp [H.out.2.2.2]⟩

set_option maxRecDepth 100000 in
set_option maxHeartbeats 800000 in
theorem wbytes_c (pb : Nat) (v bv : Value) (l m : List UInt8) (bad : Bool) (w : World) (hw : Wr w pb v l bad) (hb : Rd w bv m) (h1 : rblk bv ≠ some pb) (h2 : ∀ k, v.ownBlock = some k → rblk bv ≠ some k)
    (hm : m.length ≤ 2147483647) (hl : l.length ≤ 35184372088832) :
    Calls Try.prog 31 #[.pointer (some ⟨pb, 0, none⟩), bv] w fun e w' => e = .returned (.pointer (some ⟨pb, 0, none⟩)) ∧ ∃ v', WTo w w' pb v v' (l ++ (leB 4 m.length ++ m)) bad := by
  obtain ⟨ao, c, rfl, hmc⟩ := hb.form
  have HB := hid hb
  clear hb
  have H12 := hid (And.intro h1 h2)
  clear h1 h2
  go_enter Try.func31, Try.ntmps31
  go_wp2_with fail
  refine (wnum_ok pb v l bad _ _ hw (by omega) (by omega) (by omega)).mono ?_
  rintro e w1 ⟨rfl, v1, hW1⟩
  have HW1 := hid hW1
  have hc1 := hW1.wr.c0
  clear hW1
  go_wp2_with (at_builtin; refine wpList_appB rfl (.tmp 18) (.tmp 19) 25 rfl 5 Try.underlying25 infoB v1 (.slice ao m.length c) (l ++ leB 4 m.length) m rfl rfl ?c1 ?c2 ?c3 ?_)
  case c1 => exact HW1.out.wr.own
  case c2 =>
    refine HB.out.keep' HW1.out.fr (fun k hk e => ?_)
    rcases e with e | e
    · exact H12.out.1 (e ▸ hk)
    · exact H12.out.2 k e hk
  case c3 => simp [leB_length]; omega
  intro v2 w2 ho hg hnew _
  have HW2 := hid (HW1.out.trans (HW1.out.wr.put hg ho hnew))
  obtain ⟨hc2, hf2⟩ := HW1.out.wr.cells hg
  obtain ⟨ao2, n2, c2, rfl⟩ := ho.form
  clear ho hg hnew
  go_wp2_with fail
  go_ret
  exact ⟨rfl, _, by simpa using HW2.out⟩

set_option maxRecDepth 100000 in
set_option maxHeartbeats 800000 in
theorem wtext_c (pb : Nat) (v : Value) (l : List UInt8) (s : ByteArray) (bad : Bool) (w : World) (hw : Wr w pb v l bad) (hm : s.size ≤ 2147483647) (hl : l.length ≤ 35184372088832) :
    Calls Try.prog 59 #[.pointer (some ⟨pb, 0, none⟩), .string s] w fun e w' => e = .returned (.pointer (some ⟨pb, 0, none⟩)) ∧ ∃ v', WTo w w' pb v v' (l ++ (leB 4 s.size ++ s.data.toList)) bad := by
  have hz : s.data.toList.length = s.size := by rw [Array.length_toList]; rfl
  have HZ := hid hz
  clear hz
  go_enter Try.func59, Try.ntmps59
  go_wp2_with (refine wpList_bytS rfl (.tmp 6) 9 25 rfl 5 s str_ty Try.underlying25 Try.underlying5 (by omega) rfl ?_)
  intro c w1 hb hf hn
  have HW1 := hid (hw.keep0 hf)
  have HB := hid hb
  have HF := hid hf
  clear hb hf
  go_wp2_with fail
  refine (wbytes_c pb v _ l s.data.toList bad _ HW1.out HB.out.rd ?d1 ?d2 ?d3 hl).mono ?_
  case d1 => intro e; have e := rblk_own e; have := hw.lt; simp [Value.ownBlock] at e; omega
  case d2 => intro k hk e; have e := rblk_own e; have := hw.own.lt k hk; simp [Value.ownBlock] at e; omega
  case d3 => rw [HZ.out]; omega
  rintro e w2 ⟨rfl, v2, hW2⟩
  have HW2 := hid hW2
  clear hW2
  go_wp2_with fail
  go_ret
  refine ⟨rfl, v2, ?_⟩
  have := (⟨HW1.out, HF.out.mono (fun _ _ e => e.elim), fun _ e => .inl e⟩ : WTo w w1 pb v v l bad).trans HW2.out
  rw [HZ.out] at this
  exact this

theorem wdone_nil (w : World) : Calls Try.prog 19 #[.pointer none] w fun e w' => e = .returned (.tuple #[.slice none 0 0, .bool false]) ∧ w = w' := by
  go_enter Try.func19, Try.ntmps19
  go_wp2_with fail
  go_ret2
  exact ⟨rfl, rfl⟩

theorem wdone_bad (pb : Nat) (v : Value) (l : List UInt8) (w : World) (hw : Wr w pb v l true) : Calls Try.prog 19 #[.pointer (some ⟨pb, 0, none⟩)] w fun e w' => e = .returned (.tuple #[.slice none 0 0, .bool false]) ∧ w = w' := by
  have hc := hw.c1
  go_enter Try.func19, Try.ntmps19
  go_wp2_with fail
  go_ret2
  exact ⟨rfl, rfl⟩

theorem wdone_ok (pb : Nat) (v : Value) (l : List UInt8) (w : World) (hw : Wr w pb v l false) (hl : l.length ≤ 70368744177664) :
    Calls Try.prog 19 #[.pointer (some ⟨pb, 0, none⟩)] w fun e w' => ∃ v', e = .returned (.tuple #[v', .bool true]) ∧ Ob w' 5 v' l ∧ Fr F0 w w' ∧ New w v' := by
  have hc := hw.c1
  have hc0 := hw.c0
  go_enter Try.func19, Try.ntmps19
  go_wp2_with (go_at_call 63; refine (clone_c v l _ hw.own.rd hl).mono ?_; rintro e w1 ⟨v1, rfl, h1, h2, h3, h4⟩; have H1 := hid (And.intro h1 (And.intro h2 h3)); clear h1 h2 h3 h4)
  go_ret2
  exact ⟨_, rfl, H1.out⟩

end Go.Proofs.Ytfalaopljodmnaa
