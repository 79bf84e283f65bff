/- codec.Reader: what each method does to it. -/
import Derived.Test.YtfalaopljodmnaaWr2
namespace Go.Proofs.Ytfalaopljodmnaa
open Go.RowKit

/-- A codec.Reader at block rb: what it has left is l, its error e. -/
structure Rr (w : World) (rb : Nat) (v : Value) (l : List UInt8) (e : Int) : Prop where
  blk : w.heap[rb]? = some (.cells #[v, .int .i64 e] 108 (0, 0))
  rd : Rd w v l
  apart : v.ownBlock ≠ some rb

/-- A method has made out of a Reader one with l, e. -/
structure RTo (w w' : World) (rb : Nat) (l : List UInt8) (e : Int) : Prop where
  rr : ∃ v, Rr w' rb v l e
  fr : Fr (fun k => k = rb) w w'

theorem Rr.lt {w rb v l e} (h : Rr w rb v l e) : rb < w.heap.size := lt_of_heap h.blk
theorem Rr.c0 {w rb v l e} (h : Rr w rb v l e) : w.cell? ⟨rb, 0, none⟩ = some v := by rw [cell_at h.blk]; rfl
theorem Rr.c1 {w rb v l e} (h : Rr w rb v l e) : w.cell? ⟨rb, 1, none⟩ = some (.int .i64 e) := by rw [cell_at h.blk]; rfl
theorem Rr.f {w rb v l e} (h : Rr w rb v l e) (i : Nat) : w.frozen? ⟨rb, i, none⟩ = false := frozen_at h.blk i
theorem Rr.refl {w rb v l e} (h : Rr w rb v l e) : RTo w w rb l e := ⟨⟨v, h⟩, Fr.refl _ _⟩
theorem RTo.trans {w1 w2 w3 : World} {rb : Nat} {l l' : List UInt8} {e e' : Int} (h : RTo w1 w2 rb l e) (k : RTo w2 w3 rb l' e') : RTo w1 w3 rb l' e' := ⟨k.rr, h.fr.trans k.fr (fun _ _ e => e)⟩
theorem Rr.keep {S : Nat → Prop} {w w' : World} {rb v l e} (h : Rr w rb v l e) (f : Fr S w w') (hp : ¬ S rb) (hv : ∀ k, v.ownBlock = some k → ¬ S k) : Rr w' rb v l e :=
  ⟨f.heap h.blk hp, h.rd.keep f hv, h.apart⟩
theorem Rr.keep0 {w w' : World} {rb v l e} (h : Rr w rb v l e) (f : Fr F0 w w') : Rr w' rb v l e := h.keep f (fun e => e) (fun _ _ e => e)

theorem Rr.fail {w : World} {rb v l e} (h : Rr w rb v l e) (e' : Int) : RTo w (w.setCell ⟨rb, 1, none⟩ (.int .i64 e')) rb l e' := by
  have hf := (Fr.refl (fun k => k = rb) w).setCell (p := ⟨rb, 1, none⟩) (fun _ => rfl) (.int .i64 e')
  exact ⟨⟨v, by rw [heap_setCell h.blk]; rfl, h.rd.keep hf (fun k hk e => h.apart (e ▸ hk)), h.apart⟩, hf⟩

theorem Rr.move {w : World} {rb v l e} (h : Rr w rb v l e) (v' : Value) (l' : List UInt8) (hr : Rd w v' l') (hn : ∀ k, v'.ownBlock = some k → v.ownBlock = some k) : RTo w (w.setCell ⟨rb, 0, none⟩ v') rb l' e := by
  have hf := (Fr.refl (fun k => k = rb) w).setCell (p := ⟨rb, 0, none⟩) (fun _ => rfl) v'
  exact ⟨⟨v', by rw [heap_setCell h.blk]; rfl, hr.keep hf (fun k hk e => h.apart (e ▸ hn k hk)), fun e => h.apart (hn _ e)⟩, hf⟩

theorem rnew_n (v : Value) (l : List UInt8) (w : World) (hr : Rd w v l) (hl : l.length ≤ 70368744177664) :
    Calls Try.prog 21 #[v] w fun e w' => ∃ rb v', e = .returned (.pointer (some ⟨rb, 0, none⟩)) ∧ Rr w' rb v' l 0 ∧ w.heap.size ≤ rb ∧ Fr F0 w w' ∧ New w v' ∧ rb < w'.heap.size := by
  go_enter Try.func21, Try.ntmps21
  go_wp2_with fail
  refine (clone_c v l _ hr hl).mono ?_
  rintro e w1 ⟨v1, rfl, h1, h2, h3, _⟩
  have H1 := hid h1
  have H2 := hid h2
  have H3 : Hid (New w v1) := hid h3
  obtain ⟨ao, n, c, rfl⟩ := h1.form
  clear h1 h2 h3
  go_wp2_with fail
  go_ret
  have hfr : Fr F0 w1 _ := (Fr.refl _ w1).alloc (.cells #[Value.slice ao n c, Value.int .i64 0] 108)
  exact ⟨w1.heap.size, _, rfl, ⟨heap_alloc_last _ _, H1.out.rd.keep0 hfr, fun e => by have := H1.out.lt _ e; omega⟩, H2.out.size, H2.out.alloc _, H3.out, by simp⟩

theorem rnew_c (v : Value) (l : List UInt8) (w : World) (hr : Rd w v l) (hl : l.length ≤ 70368744177664) :
    Calls Try.prog 21 #[v] w fun e w' => ∃ rb v', e = .returned (.pointer (some ⟨rb, 0, none⟩)) ∧ Rr w' rb v' l 0 ∧ w.heap.size ≤ rb ∧ Fr F0 w w' :=
  (rnew_n v l w hr hl).mono fun _ _ ⟨rb, v', h1, h2, h3, h4, _⟩ => ⟨rb, v', h1, h2, h3, h4⟩

theorem rerr_c (rb : Nat) (v : Value) (l : List UInt8) (e : Int) (w : World) (h : Rr w rb v l e) : Calls Try.prog 30 #[.pointer (some ⟨rb, 0, none⟩)] w fun en w' => en = .returned (.int .i64 e) ∧ w = w' := by
  have hc := h.c1
  go_enter Try.func30, Try.ntmps30
  go_wp2_with fail
  go_ret
  exact ⟨rfl, rfl⟩

theorem rerr_nil (w : World) : Calls Try.prog 30 #[.pointer none] w fun en w' => en = .returned (.int .i64 2) ∧ w = w' := by
  go_enter Try.func30, Try.ntmps30
  go_wp2_with fail
  go_ret
  exact ⟨rfl, rfl⟩

/-- takes, where there is an error. -/
theorem takes_err (rb : Nat) (v : Value) (l : List UInt8) (e n : Int) (w : World) (h : Rr w rb v l e) (he : e ≠ 0) :
    Calls Try.prog 66 #[.pointer (some ⟨rb, 0, none⟩), .int .i64 n] w fun en w' => en = .returned (.slice none 0 0) ∧ w = w' := by
  have he' : (e != 0) = true := by simp [he]
  clear he
  go_enter Try.func66, Try.ntmps66
  go_wp2_with fail
  refine (rerr_c rb v l e _ h).mono ?_
  rintro en w1 ⟨rfl, rfl⟩
  go_wp2_with fail
  go_ret
  exact ⟨rfl, rfl⟩

theorem takes_nil (n : Int) (w : World) : Calls Try.prog 66 #[.pointer none, .int .i64 n] w fun en w' => en = .returned (.slice none 0 0) ∧ w = w' := by
  go_enter Try.func66, Try.ntmps66
  go_wp2_with fail
  refine (rerr_nil _).mono ?_
  rintro en w1 ⟨rfl, rfl⟩
  go_wp2_with fail
  go_ret
  exact ⟨rfl, rfl⟩

/-- .. where too few are left. -/
theorem takes_few (rb : Nat) (v : Value) (l : List UInt8) (n : Int) (w : World) (h : Rr w rb v l 0) (hn : (l.length : Int) < n) :
    Calls Try.prog 66 #[.pointer (some ⟨rb, 0, none⟩), .int .i64 n] w fun en w' => en = .returned (.slice none 0 0) ∧ RTo w w' rb l 2 := by
  have hc := h.c0
  have hc1 := h.c1
  have hf := h.f 1
  have H := hid (h.fail 2)
  obtain ⟨ao, c, hv, _⟩ := h.rd.form
  subst hv
  go_enter Try.func66, Try.ntmps66
  go_wp2_with fail
  refine (rerr_c rb _ l 0 _ h).mono ?_
  rintro en w1 ⟨rfl, rfl⟩
  go_wp2_with fail
  go_ret
  exact ⟨rfl, H.out⟩

/-- .. where there are enough. -/
theorem takes_ok (rb : Nat) (v : Value) (l : List UInt8) (n : Int) (w : World) (h : Rr w rb v l 0) (h0 : 0 ≤ n) (hn : n ≤ (l.length : Int)) (hl : l.length ≤ 70368744177664) :
    Calls Try.prog 66 #[.pointer (some ⟨rb, 0, none⟩), .int .i64 n] w fun en w' => ∃ v', en = .returned v' ∧ Ob w' 5 v' (l.take n.toNat) ∧ New w v' ∧ v'.ownBlock ≠ some rb ∧ RTo w w' rb (l.drop n.toNat) 0 := by
  obtain ⟨n, rfl⟩ := Int.eq_ofNat_of_zero_le h0
  have hn' : ¬ (l.length : Int) < n := by omega
  have HN := hid hn
  have HL := hid hl
  clear h0 hl
  have H := hid h
  have hc := h.c0
  have hv' := h.rd.form
  obtain ⟨ao, c, hv, hlc⟩ := hv'
  subst hv
  go_enter Try.func66, Try.ntmps66
  go_wp2_with fail
  refine (rerr_c rb _ l 0 _ h).mono ?_
  rintro en w1 ⟨rfl, rfl⟩
  clear h
  go_wp2_with (refine wpList_slB rfl (.tmp 22) none (some (.tmp 23)) 25 rfl 5 Try.underlying25 infoB _ l rfl H.out.rd 0 n (.inl ⟨rfl, rfl⟩) (.inr rfl) (Nat.zero_le _) (by have := HN.out; omega) ?_)
  intro a1 m1 c1 H1
  go_wp2_with fail
  refine (clone_c _ (l.take n) w (by simpa using H1.out.1) (by have := HL.out; have := List.length_take_le n l; omega)).mono ?_
  rintro e w1 ⟨v1, rfl, h1, h2, h3, _⟩
  have H2 := hid h1
  have H3 := hid h2
  have H4 := hid h3
  have HW := hid (H.out.keep0 h2)
  have hc := HW.out.c0
  have hf := HW.out.f 0
  clear h1 h2 h3
  go_wp2_with (refine wpList_slB rfl (.tmp 30) (some (.tmp 31)) none 25 rfl 5 Try.underlying25 infoB _ l rfl HW.out.rd n l.length (.inr rfl) (.inl ⟨rfl, rfl⟩) (by have := HN.out; omega) (Nat.le_refl _) ?_)
  intro a2 m2 c2 H5
  have hm := HW.out.move (.slice a2 m2 c2) (l.drop n) (by have := H5.out.1; rwa [List.take_of_length_le (by simp)] at this) H5.out.2.2.1
  have H6 := hid hm
  clear hm
  go_wp2_with fail
  go_ret
  have hnb : v1.ownBlock ≠ some rb := fun e => by have := H4.out _ e; have := H.out.lt; omega
  refine ⟨v1, rfl, H2.out.keep H6.out.fr (fun k hk e => by subst e; exact hnb hk), H4.out, hnb, ?_⟩
  exact (⟨⟨_, HW.out⟩, H3.out.mono (fun _ _ e => e.elim)⟩ : RTo w w1 rb l 0).trans (by simpa using H6.out)

end Go.Proofs.Ytfalaopljodmnaa
