/- codec.Reader: get, Num, Word, Bytes, Text, Left. -/
import Derived.Test.YtfalaopljodmnaaRd
import Derived.Test.YtfalaopljodmnaaBits
namespace Go.Proofs.Ytfalaopljodmnaa
open Go.RowKit

set_option maxRecDepth 100000 in
set_option maxHeartbeats 800000 in
theorem get_ok (rb : Nat) (v : Value) (l : List UInt8) (n : Int) (w : World) (h : Rr w rb v l 0) (h0 : 0 < n) (h8 : n ≤ 8) (hn : n ≤ (l.length : Int)) (hl : l.length ≤ 70368744177664) :
    Calls Try.prog 65 #[.pointer (some ⟨rb, 0, none⟩), .int .i64 n] w fun en w' => en = .returned (.int .u64 (leV (l.take n.toNat))) ∧ RTo w w' rb (l.drop n.toNat) 0 := by
  obtain ⟨n, rfl⟩ := Int.eq_ofNat_of_zero_le (Int.le_of_lt h0)
  have HN := hid hn
  clear hn
  go_enter Try.func65, Try.ntmps65
  go_wp2_with fail
  refine (takes_ok rb v l n _ h (by omega) HN.out hl).mono ?_
  rintro e w1 ⟨v1, rfl, h1, h2, h3, h4⟩
  have H1 := hid h1
  have H4 := hid h4
  have hlen : (l.take (n : Int).toNat).length = n := by have := HN.out; simp; omega
  have hfo := h1.rd.open (by omega)
  rw [hlen] at hfo
  obtain ⟨b, o, c, rfl, hlc, hcell⟩ := hfo
  have HC := hid hcell
  clear h1 h2 h3 h4 hlen hcell
  go_wp2_with fail
  go_loop [4, 5, 6, 11] (fun x _ _ i => ∃ k : Nat, k ≤ n ∧ i = .int .i64 k ∧ x = .int .u64 (leV (l.take k))) (fun _ _ _ i => n - (intOf i).toNat)
  case atStart => exact ⟨0, by omega, rfl, by simp [leV]⟩
  case round =>
    obtain ⟨k, hk, rfl, rfl⟩ := hrel
    by_cases hlt : k < n
    · obtain ⟨u, hu⟩ : ∃ u, l[k]? = some u := ⟨_, List.getElem?_eq_getElem (by have := HN.out; omega)⟩
      have hc := HC.out k u (by simpa [hlt] using hu)
      have HU := hid hu
      clear hu
      have hul := u.toNat_lt
      go_wp2_with fail
      have hgs := get_step l k u (by omega) HU.out
      refine ⟨⟨k + 1, by omega, by go_num, by rw [hgs]⟩, by simp [intOf]; omega⟩
    · go_wp2_with fail
      go_ret
      have : k = n := by omega
      subst this
      exact ⟨rfl, H4.out⟩

theorem get_err (rb : Nat) (v : Value) (l : List UInt8) (e n : Int) (w : World) (h : Rr w rb v l e) (he : e ≠ 0) :
    Calls Try.prog 65 #[.pointer (some ⟨rb, 0, none⟩), .int .i64 n] w fun en w' => en = .returned (.int .u64 0) ∧ w = w' := by
  go_enter Try.func65, Try.ntmps65
  go_wp2_with fail
  refine (takes_err rb v l e n _ h he).mono ?_
  rintro en w1 ⟨rfl, rfl⟩
  clear h
  go_wp2_with fail
  refine wp_loop_once ?_
  go_wp2_with fail
  go_ret
  exact ⟨rfl, rfl⟩

theorem get_nil (n : Int) (w : World) : Calls Try.prog 65 #[.pointer none, .int .i64 n] w fun en w' => en = .returned (.int .u64 0) ∧ w = w' := by
  go_enter Try.func65, Try.ntmps65
  go_wp2_with fail
  refine (takes_nil n _).mono ?_
  rintro en w1 ⟨rfl, rfl⟩
  go_wp2_with fail
  refine wp_loop_once ?_
  go_wp2_with fail
  go_ret
  exact ⟨rfl, rfl⟩

theorem get_few (rb : Nat) (v : Value) (l : List UInt8) (n : Int) (w : World) (h : Rr w rb v l 0) (hn : (l.length : Int) < n) :
    Calls Try.prog 65 #[.pointer (some ⟨rb, 0, none⟩), .int .i64 n] w fun en w' => en = .returned (.int .u64 0) ∧ RTo w w' rb l 2 := by
  have HN := hid hn
  clear hn
  go_enter Try.func65, Try.ntmps65
  go_wp2_with fail
  refine (takes_few rb v l n _ h HN.out).mono ?_
  rintro en w1 ⟨rfl, h1⟩
  have H1 := hid h1
  clear h h1
  go_wp2_with fail
  refine wp_loop_once ?_
  go_wp2_with fail
  go_ret
  exact ⟨rfl, H1.out⟩

/-- What Num makes of what is left: the number, what is left, the error. -/
def rnum (l : List UInt8) (e : Int) : Nat × List UInt8 × Int :=
  if e ≠ 0 then (0, l, e) else if l.length < 4 then (0, l, 2) else if 2147483647 < leV (l.take 4) then (0, l.drop 4, 2) else (leV (l.take 4), l.drop 4, 0)

theorem rnum_c (rb : Nat) (v : Value) (l : List UInt8) (e : Int) (w : World) (h : Rr w rb v l e) (hl : l.length ≤ 70368744177664) :
    Calls Try.prog 24 #[.pointer (some ⟨rb, 0, none⟩)] w fun en w' => en = .returned (.int .i64 (rnum l e).1) ∧ RTo w w' rb (rnum l e).2.1 (rnum l e).2.2 := by
  by_cases he : e = 0
  · subst he
    by_cases h4 : l.length < 4
    · have hq : rnum l 0 = (0, l, 2) := by simp [rnum, h4]
      rw [hq]
      clear hq
      go_enter Try.func24, Try.ntmps24
      go_wp2_with fail
      refine (get_few rb v l 4 _ h (by omega)).mono ?_
      rintro en w1 ⟨rfl, h1⟩
      have H1 := hid h1
      clear h h1
      go_wp2_with fail
      go_ret
      exact ⟨rfl, H1.out⟩
    · by_cases hb : 2147483647 < leV (l.take 4)
      · have hq : rnum l 0 = (0, l.drop 4, 2) := by simp [rnum, h4, hb]
        rw [hq]
        clear hq
        generalize hx : leV (l.take 4) = x at *
        have HX := hid hx
        clear hx
        go_enter Try.func24, Try.ntmps24
        go_wp2_with fail
        refine (get_ok rb v l 4 _ h (by omega) (by omega) (by omega) hl).mono ?_
        rintro en w1 ⟨rfl, h1⟩
        have e4 : (4 : Int).toNat = 4 := rfl
        rw [e4] at *
        rw [HX.out]
        obtain ⟨⟨v1, r1⟩, f1⟩ := h1
        have H1 := hid ((⟨⟨v1, r1⟩, f1⟩ : RTo w w1 rb (l.drop 4) 0).trans (r1.fail 2))
        have hc := r1.c1
        have hf := r1.f 1
        clear h r1 f1 e4
        go_wp2_with fail
        go_ret
        exact ⟨rfl, H1.out⟩
      · have hq : rnum l 0 = (leV (l.take 4), l.drop 4, 0) := by simp [rnum, h4, hb]
        rw [hq]
        clear hq
        generalize hx : leV (l.take 4) = x at *
        have HX := hid hx
        clear hx
        go_enter Try.func24, Try.ntmps24
        go_wp2_with fail
        refine (get_ok rb v l 4 _ h (by omega) (by omega) (by omega) hl).mono ?_
        rintro en w1 ⟨rfl, h1⟩
        have e4 : (4 : Int).toNat = 4 := rfl
        rw [e4] at *
        rw [HX.out]
        have H1 := hid h1
        clear h h1 e4
        go_wp2_with fail
        go_ret
        exact ⟨rfl, H1.out⟩
  · have hq : rnum l e = (0, l, e) := by simp [rnum, he]
    rw [hq]
    clear hq
    have H := hid h.refl
    have HE := hid he
    clear he
    go_enter Try.func24, Try.ntmps24
    go_wp2_with fail
    refine (get_err rb v l e 4 _ h HE.out).mono ?_
    rintro en w1 ⟨rfl, rfl⟩
    clear h
    go_wp2_with fail
    go_ret
    exact ⟨rfl, H.out⟩

theorem rnum_nil (w : World) : Calls Try.prog 24 #[.pointer none] w fun en w' => en = .returned (.int .i64 0) ∧ w = w' := by
  go_enter Try.func24, Try.ntmps24
  go_wp2_with fail
  refine (get_nil 4 _).mono ?_
  rintro en w1 ⟨rfl, rfl⟩
  go_wp2_with fail
  go_ret
  exact ⟨rfl, rfl⟩

end Go.Proofs.Ytfalaopljodmnaa
