/- A Writer that one makes, fills, and is done with: where all that it touches is new. -/
import Derived.Test.YtfalaopljodmnaaSeal
namespace Go.Proofs.Ytfalaopljodmnaa
open Go.RowKit

/-- Since w a Writer was made at pb, and holds l. -/
def WW (w W : World) (pb : Nat) (l : List UInt8) : Prop := ∃ v, Wr W pb v l false ∧ Fr F0 w W ∧ w.heap.size ≤ pb ∧ New w v

theorem WW.fr {w W : World} {pb : Nat} {l : List UInt8} (h : WW w W pb l) : Fr F0 w W := let ⟨_, _, f, _⟩ := h; f

theorem WW.keep {w W W' : World} {pb : Nat} {l : List UInt8} (h : WW w W pb l) (f : Fr F0 W W') : WW w W' pb l :=
  let ⟨v, h1, h2, h3, h4⟩ := h; ⟨v, h1.keep0 f, F0.and h2 f, h3, h4⟩

theorem WW.start {w W : World} {pb : Nat} (h : W.heap[pb]? = some (.cells #[.slice none 0 0, .bool false] 48 (0, 0))) (f : Fr F0 w W) (hp : w.heap.size ≤ pb) : WW w W pb [] :=
  ⟨.slice none 0 0, ⟨h, Ob.nil _ _, by simp [Value.ownBlock]⟩, f, hp, New.nil _ _ _⟩

theorem WW.next {w W W' : World} {pb : Nat} {m : List UInt8} {v v' : Value} (f : Fr F0 w W) (hp : w.heap.size ≤ pb) (n : New w v) (t : WTo W W' pb v v' m false) : WW w W' pb m :=
  ⟨v', t.wr, f.trans t.fr (fun i hi e => by
      rcases e with e | e
      · omega
      · have := n i e; omega), hp, fun k hk => by
      rcases t.new k hk with e | e
      · exact n k e
      · exact Nat.le_trans f.size e⟩

theorem heap_alloc_two (w : World) (x y : Obj) : ((w.alloc x).alloc y).heap[w.heap.size + 1]? = some y := by
  have := heap_alloc_last (w.alloc x) y
  rwa [show (w.alloc x).heap.size = w.heap.size + 1 from Array.size_push ..] at this

theorem ww_num (w W : World) (pb : Nat) (l : List UInt8) (n : Int) (h : WW w W pb l) (h0 : 0 ≤ n) (h1 : n ≤ 2147483647) (hl : l.length ≤ 35184372088832) :
    Calls Try.prog 20 #[.pointer (some ⟨pb, 0, none⟩), .int .i64 n] W fun e w' => e = .returned (.pointer (some ⟨pb, 0, none⟩)) ∧ WW w w' pb (l ++ leB 4 n.toNat) := by
  obtain ⟨v, hw, f, hp, hn⟩ := h
  refine (wnum_ok pb v l false n W hw h0 h1 (by omega)).mono ?_
  rintro e w' ⟨rfl, v', t⟩
  exact ⟨rfl, WW.next f hp hn t⟩

theorem ww_bytes (w W : World) (pb : Nat) (l m : List UInt8) (bv : Value) (h : WW w W pb l) (hb : Rd w bv m) (hm : m.length ≤ 2147483647) (hl : l.length ≤ 35184372088832) :
    Calls Try.prog 31 #[.pointer (some ⟨pb, 0, none⟩), bv] W fun e w' => e = .returned (.pointer (some ⟨pb, 0, none⟩)) ∧ WW w w' pb (l ++ (leB 4 m.length ++ m)) := by
  obtain ⟨v, hw, f, hp, hn⟩ := h
  refine (wbytes_c pb v bv l m false W hw (hb.keep0 f) (fun e => by have := hb.lt pb e; omega) (fun k hk e => by have := hb.lt k e; have := hn k hk; omega) hm hl).mono ?_
  rintro e w' ⟨rfl, v', t⟩
  exact ⟨rfl, WW.next f hp hn t⟩

theorem ww_done (w W : World) (pb : Nat) (l : List UInt8) (h : WW w W pb l) (hl : l.length ≤ 35184372088832) :
    Calls Try.prog 19 #[.pointer (some ⟨pb, 0, none⟩)] W fun e w' => ∃ v', e = .returned (.tuple #[v', .bool true]) ∧ Ob w' 5 v' l ∧ Fr F0 w w' ∧ New w v' := by
  obtain ⟨v, hw, f, hp, hn⟩ := h
  refine (wdone_ok pb v l W hw (by omega)).mono ?_
  rintro e w' ⟨v', rfl, h1, h2, h3⟩
  exact ⟨v', rfl, h1, F0.and f h2, fun k hk => Nat.le_trans f.size (h3 k hk)⟩

/-- Since w a Reader was made at rb; l is left, e is its error. -/
def RW (w W : World) (rb : Nat) (l : List UInt8) (e : Int) : Prop := (∃ v, Rr W rb v l e) ∧ Fr F0 w W ∧ w.heap.size ≤ rb

theorem RW.fr {w W : World} {rb : Nat} {l : List UInt8} {e : Int} (h : RW w W rb l e) : Fr F0 w W := h.2.1
theorem RW.lt {w W : World} {rb : Nat} {l : List UInt8} {e : Int} (h : RW w W rb l e) : rb < W.heap.size := let ⟨⟨_, h⟩, _⟩ := h; h.lt
theorem RW.keep {w W W' : World} {rb : Nat} {l : List UInt8} {e : Int} (h : RW w W rb l e) (f : Fr F0 W W') : RW w W' rb l e :=
  let ⟨⟨v, h1⟩, h2, h3⟩ := h; ⟨⟨v, h1.keep0 f⟩, F0.and h2 f, h3⟩
theorem RW.from {w0 w W : World} {rb : Nat} {l : List UInt8} {e : Int} (h : RW w W rb l e) (f : Fr F0 w0 w) : RW w0 W rb l e := ⟨h.1, F0.and f h.2.1, Nat.le_trans f.size h.2.2⟩

theorem RW.next {w W W' : World} {rb : Nat} {l l' : List UInt8} {e e' : Int} (h : RW w W rb l e) (t : RTo W W' rb l' e') : RW w W' rb l' e' :=
  ⟨t.rr, Fr.trans h.2.1 t.fr (fun i hi k => by have := h.2.2; omega), h.2.2⟩

theorem rw_new (v : Value) (l : List UInt8) (w : World) (hr : Rd w v l) (hl : l.length ≤ 35184372088832) :
    Calls Try.prog 21 #[v] w fun e w' => ∃ rb, e = .returned (.pointer (some ⟨rb, 0, none⟩)) ∧ RW w w' rb l 0 :=
  (rnew_n v l w hr (by omega)).mono fun _ _ ⟨rb, v', h1, h2, h3, h4, _⟩ => ⟨rb, h1, ⟨v', h2⟩, h4, h3⟩

theorem rw_num (w W : World) (rb : Nat) (l : List UInt8) (e : Int) (h : RW w W rb l e) (hl : l.length ≤ 35184372088832) :
    Calls Try.prog 24 #[.pointer (some ⟨rb, 0, none⟩)] W fun en w' => en = .returned (.int .i64 (rnum l e).1) ∧ RW w w' rb (rnum l e).2.1 (rnum l e).2.2 := by
  obtain ⟨v, hv⟩ := h.1
  refine (rnum_c rb v l e W hv (by omega)).mono ?_
  rintro en w' ⟨rfl, t⟩
  exact ⟨rfl, h.next t⟩

theorem rw_bytes (w W : World) (rb : Nat) (l : List UInt8) (e most : Int) (h : RW w W rb l e) (hl : l.length ≤ 35184372088832) :
    Calls Try.prog 27 #[.pointer (some ⟨rb, 0, none⟩), .int .i64 most] W fun en w' => ∃ v', en = .returned v' ∧ Ob w' 5 v' (rbytes l e most).1 ∧ New W v' ∧ v'.ownBlock ≠ some rb ∧
      RW w w' rb (rbytes l e most).2.1 (rbytes l e most).2.2 ∧ Fr (fun k => k = rb) W w' := by
  obtain ⟨v, hv⟩ := h.1
  refine (rbytes_c rb v l e most W hv (by omega)).mono ?_
  rintro en w' ⟨v', rfl, h1, h2, h3, h4⟩
  exact ⟨v', rfl, h1, h2, h3, h.next h4, h4.fr⟩

theorem rw_err (w W : World) (rb : Nat) (l : List UInt8) (e : Int) (h : RW w W rb l e) :
    Calls Try.prog 30 #[.pointer (some ⟨rb, 0, none⟩)] W fun en w' => en = .returned (.int .i64 e) ∧ W = w' := by
  obtain ⟨v, hv⟩ := h.1
  exact rerr_c rb v l e W hv

theorem rw_left (w W : World) (rb : Nat) (l : List UInt8) (e : Int) (h : RW w W rb l e) :
    Calls Try.prog 29 #[.pointer (some ⟨rb, 0, none⟩)] W fun en w' => en = .returned (.int .i64 (if e = 0 then (l.length : Int) else 0)) ∧ W = w' := by
  obtain ⟨v, hv⟩ := h.1
  exact rleft_c rb v l e W hv

theorem rnum_le (l : List UInt8) (e : Int) : (rnum l e).2.1.length ≤ l.length := rnum_len l e

theorem rbytes_le (l : List UInt8) (e most : Int) : (rbytes l e most).2.1.length ≤ l.length := by
  have := rnum_len l e
  unfold rbytes
  split
  · exact this
  · split
    · exact this
    · split
      · exact this
      · dsimp only; rw [List.length_drop]; omega

end Go.Proofs.Ytfalaopljodmnaa
