/- codec.Reader: Word, Bytes, Text, Left. -/
import Derived.Test.YtfalaopljodmnaaRd2
namespace Go.Proofs.Ytfalaopljodmnaa
open Go.RowKit

/-- What Word makes of what is left. -/
def rword (l : List UInt8) (e : Int) : Nat × List UInt8 × Int :=
  if e ≠ 0 then (0, l, e) else if l.length < 8 then (0, l, 2) else (leV (l.take 8), l.drop 8, 0)

theorem rword_c (rb : Nat) (v : Value) (l : List UInt8) (e : Int) (w : World) (h : Rr w rb v l e) (hl : l.length ≤ 70368744177664) :
    Calls Try.prog 25 #[.pointer (some ⟨rb, 0, none⟩)] w fun en w' => en = .returned (.int .u64 (rword l e).1) ∧ RTo w w' rb (rword l e).2.1 (rword l e).2.2 := by
  by_cases he : e = 0
  · subst he
    by_cases h4 : l.length < 8
    · have hq : rword l 0 = (0, l, 2) := by simp [rword, h4]
      rw [hq]
      clear hq
      go_enter Try.func25, Try.ntmps25
      go_wp2_with fail
      refine (get_few rb v l 8 _ h (by omega)).mono ?_
      rintro en w1 ⟨rfl, h1⟩
      have H1 := hid h1
      clear h h1
      go_wp2_with fail
      go_ret
      exact ⟨rfl, H1.out⟩
    · have hq : rword l 0 = (leV (l.take 8), l.drop 8, 0) := by simp [rword, h4]
      rw [hq]
      clear hq
      generalize hx : leV (l.take 8) = x at *
      have HX := hid hx
      clear hx
      go_enter Try.func25, Try.ntmps25
      go_wp2_with fail
      refine (get_ok rb v l 8 _ h (by omega) (by omega) (by omega) hl).mono ?_
      rintro en w1 ⟨rfl, h1⟩
      have e4 : (8 : Int).toNat = 8 := rfl
      rw [e4] at *
      rw [HX.out]
      have H1 := hid h1
      clear h h1 e4
      go_wp2_with fail
      go_ret
      exact ⟨rfl, H1.out⟩
  · have hq : rword l e = (0, l, e) := by simp [rword, he]
    rw [hq]
    clear hq
    have H := hid h.refl
    have HE := hid he
    clear he
    go_enter Try.func25, Try.ntmps25
    go_wp2_with fail
    refine (get_err rb v l e 8 _ h HE.out).mono ?_
    rintro en w1 ⟨rfl, rfl⟩
    clear h
    go_wp2_with fail
    go_ret
    exact ⟨rfl, H.out⟩

theorem rword_nil (w : World) : Calls Try.prog 25 #[.pointer none] w fun en w' => en = .returned (.int .u64 0) ∧ w = w' := by
  go_enter Try.func25, Try.ntmps25
  go_wp2_with fail
  refine (get_nil 8 _).mono ?_
  rintro en w1 ⟨rfl, rfl⟩
  go_wp2_with fail
  go_ret
  exact ⟨rfl, rfl⟩

/-- What Bytes makes of what is left. -/
def rbytes (l : List UInt8) (e most : Int) : List UInt8 × List UInt8 × Int :=
  if (rnum l e).2.2 ≠ 0 then ([], (rnum l e).2.1, (rnum l e).2.2)
  else if (rnum l e).2.1.length < (rnum l e).1 then ([], (rnum l e).2.1, 2)
  else if most < (rnum l e).1 then ([], (rnum l e).2.1, 3)
  else ((rnum l e).2.1.take (rnum l e).1, (rnum l e).2.1.drop (rnum l e).1, 0)

/-- What a read of bytes leaves. -/
def BTo (w w' : World) (rb : Nat) (v' : Value) (b l : List UInt8) (e : Int) : Prop := Ob w' 5 v' b ∧ New w v' ∧ v'.ownBlock ≠ some rb ∧ RTo w w' rb l e

theorem BTo.nil {w w' : World} {rb : Nat} {l : List UInt8} {e : Int} (h : RTo w w' rb l e) : BTo w w' rb (.slice none 0 0) [] l e := ⟨Ob.nil _ _, New.nil _ _ _, by simp [Value.ownBlock], h⟩

theorem rnum_len (l : List UInt8) (e : Int) : (rnum l e).2.1.length ≤ l.length := by
  unfold rnum
  split
  · exact Nat.le_refl _
  · split
    · exact Nat.le_refl _
    · split <;> simp

theorem rbytes_c (rb : Nat) (v : Value) (l : List UInt8) (e most : Int) (w : World) (h : Rr w rb v l e) (hl : l.length ≤ 70368744177664) :
    Calls Try.prog 27 #[.pointer (some ⟨rb, 0, none⟩), .int .i64 most] w fun en w' => ∃ v', en = .returned v' ∧ BTo w w' rb v' (rbytes l e most).1 (rbytes l e most).2.1 (rbytes l e most).2.2 := by
  have hn := rnum_c rb v l e w h hl
  have hlen := rnum_len l e
  obtain ⟨l0, hl0⟩ : ∃ l0, l0 = l := ⟨_, rfl⟩
  unfold rbytes
  generalize rnum l e = r at *
  obtain ⟨n, l1, e1⟩ := r
  dsimp only at hn hlen ⊢
  have HN := hid hn
  have HL : Hid (l1.length ≤ 70368744177664) := hid (by omega)
  clear h hn hlen hl hl0
  by_cases he : e1 = 0
  · subst he
    by_cases h1 : l1.length < n
    · rw [if_neg (by simp), if_pos h1]
      go_enter Try.func27, Try.ntmps27
      go_wp2_with fail
      refine HN.out.mono ?_
      rintro en w1 ⟨rfl, ⟨v1, r1⟩, f1⟩
      have hc := r1.c0
      have hc1 := r1.c1
      have hf := r1.f 1
      have H1 := hid ((⟨⟨v1, r1⟩, f1⟩ : RTo w w1 rb l1 0).trans (r1.fail 2))
      obtain ⟨ao, c, hv, _⟩ := r1.rd.form
      subst hv
      clear f1
      go_wp2_with fail
      refine (rerr_c rb _ l1 0 _ r1).mono ?_
      rintro en w2 ⟨rfl, rfl⟩
      clear r1
      go_wp2_with fail
      go_ret
      exact ⟨_, rfl, BTo.nil H1.out⟩
    · by_cases h2 : most < n
      · rw [if_neg (by simp), if_neg h1, if_pos h2]
        go_enter Try.func27, Try.ntmps27
        go_wp2_with fail
        refine HN.out.mono ?_
        rintro en w1 ⟨rfl, ⟨v1, r1⟩, f1⟩
        have hc := r1.c0
        have hc1 := r1.c1
        have hf := r1.f 1
        have H1 := hid ((⟨⟨v1, r1⟩, f1⟩ : RTo w w1 rb l1 0).trans (r1.fail 3))
        obtain ⟨ao, c, hv, _⟩ := r1.rd.form
        subst hv
        clear f1
        go_wp2_with fail
        refine (rerr_c rb _ l1 0 _ r1).mono ?_
        rintro en w2 ⟨rfl, rfl⟩
        clear r1
        go_wp2_with fail
        go_ret
        exact ⟨_, rfl, BTo.nil H1.out⟩
      · rw [if_neg (by simp), if_neg h1, if_neg h2]
        go_enter Try.func27, Try.ntmps27
        go_wp2_with fail
        refine HN.out.mono ?_
        rintro en w1 ⟨rfl, ⟨v1, r1⟩, f1⟩
        have hc := r1.c0
        have hc1 := r1.c1
        have F1 := hid f1
        obtain ⟨ao, c, hv, _⟩ := r1.rd.form
        subst hv
        have R1 := hid r1
        clear f1 r1
        go_wp2_with fail
        refine (rerr_c rb _ l1 0 _ R1.out).mono ?_
        rintro en w2 ⟨rfl, rfl⟩
        go_wp2_with fail
        refine (takes_ok rb _ l1 n _ R1.out (by omega) (by omega) HL.out).mono ?_
        rintro en w2 ⟨v2, rfl, h3, h4, h5, h6⟩
        have H3 := hid h3
        have H4 : Hid (New w1 v2) := hid h4
        have H5 := hid h5
        have H6 := hid h6
        clear h3 h4 h5 h6
        go_wp2_with fail
        go_ret
        exact ⟨_, rfl, H3.out, fun k hk => Nat.le_trans F1.out.size (H4.out k hk), H5.out, (⟨⟨_, R1.out⟩, F1.out⟩ : RTo w w1 rb l1 0).trans H6.out⟩
  · rw [if_pos he]
    have he' : (e1 != 0) = true := by simp [he]
    clear he
    go_enter Try.func27, Try.ntmps27
    go_wp2_with fail
    refine HN.out.mono ?_
    rintro en w1 ⟨rfl, ⟨v1, r1⟩, f1⟩
    have H1 := hid (⟨⟨v1, r1⟩, f1⟩ : RTo w w1 rb l1 e1)
    clear f1
    go_wp2_with fail
    refine (rerr_c rb _ l1 e1 _ r1).mono ?_
    rintro en w2 ⟨rfl, rfl⟩
    clear r1
    go_wp2_with fail
    go_ret
    exact ⟨_, rfl, BTo.nil H1.out⟩

theorem rbytes_nil (most : Int) (w : World) : Calls Try.prog 27 #[.pointer none, .int .i64 most] w fun en w' => en = .returned (.slice none 0 0) ∧ w = w' := by
  go_enter Try.func27, Try.ntmps27
  go_wp2_with fail
  refine (rnum_nil _).mono ?_
  rintro en w1 ⟨rfl, rfl⟩
  go_wp2_with fail
  refine (rerr_nil _).mono ?_
  rintro en w1 ⟨rfl, rfl⟩
  go_wp2_with fail
  go_ret
  exact ⟨rfl, rfl⟩

theorem rtext_c (rb : Nat) (v : Value) (l : List UInt8) (e most : Int) (w : World) (h : Rr w rb v l e) (hl : l.length ≤ 70368744177664) :
    Calls Try.prog 28 #[.pointer (some ⟨rb, 0, none⟩), .int .i64 most] w fun en w' => en = .returned (.string ⟨(rbytes l e most).1.toArray⟩) ∧ RTo w w' rb (rbytes l e most).2.1 (rbytes l e most).2.2 := by
  have hn := rbytes_c rb v l e most w h hl
  generalize rbytes l e most = r at *
  obtain ⟨b, l1, e1⟩ := r
  dsimp only at hn ⊢
  have HN := hid hn
  clear hn h
  go_enter Try.func28, Try.ntmps28
  go_wp2_with fail
  refine HN.out.mono ?_
  rintro en w1 ⟨v1, rfl, h1, h2, h3, h4⟩
  have H1 := hid h1
  have H4 := hid h4
  clear h1 h2 h3 h4
  go_wp2_with (refine wpList_strB rfl (.tmp 7) 25 9 rfl 5 Try.underlying25 Try.underlying5 str_ty v1 b rfl H1.out.rd ?_)
  go_ret
  exact ⟨rfl, H4.out⟩

theorem rleft_c (rb : Nat) (v : Value) (l : List UInt8) (e : Int) (w : World) (h : Rr w rb v l e) :
    Calls Try.prog 29 #[.pointer (some ⟨rb, 0, none⟩)] w fun en w' => en = .returned (.int .i64 (if e = 0 then (l.length : Int) else 0)) ∧ w = w' := by
  by_cases he : e = 0
  · subst he
    rw [if_pos rfl]
    have hc := h.c0
    obtain ⟨ao, c, hv, _⟩ := h.rd.form
    subst hv
    go_enter Try.func29, Try.ntmps29
    go_wp2_with fail
    refine (rerr_c rb _ l 0 _ h).mono ?_
    rintro en w2 ⟨rfl, rfl⟩
    go_wp2_with fail
    go_ret
    exact ⟨rfl, rfl⟩
  · rw [if_neg he]
    have he' : (e != 0) = true := by simp [he]
    clear he
    go_enter Try.func29, Try.ntmps29
    go_wp2_with fail
    refine (rerr_c rb _ l e _ h).mono ?_
    rintro en w2 ⟨rfl, rfl⟩
    go_wp2_with fail
    go_ret
    exact ⟨rfl, rfl⟩

theorem rleft_nil (w : World) : Calls Try.prog 29 #[.pointer none] w fun en w' => en = .returned (.int .i64 0) ∧ w = w' := by
  go_enter Try.func29, Try.ntmps29
  go_wp2_with fail
  refine (rerr_nil _).mono ?_
  rintro en w1 ⟨rfl, rfl⟩
  go_wp2_with fail
  go_ret
  exact ⟨rfl, rfl⟩

end Go.Proofs.Ytfalaopljodmnaa
