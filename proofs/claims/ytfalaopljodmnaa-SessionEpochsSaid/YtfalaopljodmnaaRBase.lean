/- SHA-256, the reference's: words for Sum. -/
import Derived.Test.YtfalaopljodmnaaRound
namespace Go.Proofs.Ytfalaopljodmnaa
open Go.RowKit

theorem info8a : (Try.prog.info? 131).map (·.size) = some 8 := by kernel_rfl
theorem info8as (s : S8) : (Try.prog.info? 131).map (·.size) = some s.arr.size := info8a

/-- What the reference holds: the constants, the state h, the bytes M. -/
structure RS (w W : World) (kb hb : Nat) (mv : Value) (M : List UInt8) (h : S8) : Prop where
  fr : Fr F0 w W
  lk : w.heap.size ≤ kb
  lh : w.heap.size ≤ hb
  ne : kb ≠ hb
  hk : W.heap[kb]? = some (.cells kArr 129 (0, 0))
  hh : W.heap[hb]? = some (.cells h.arr 131 (0, 0))
  ob : Ob W 5 mv M
  new : ∀ k, mv.ownBlock = some k → w.heap.size ≤ k ∧ k ≠ kb ∧ k ≠ hb

theorem RS.keep {w W W' : World} {kb hb : Nat} {mv : Value} {M : List UInt8} {h : S8} (r : RS w W kb hb mv M h) (f : Fr F0 W W') : RS w W' kb hb mv M h where
  fr := r.fr.trans f (fun _ _ e => e)
  lk := r.lk
  lh := r.lh
  ne := r.ne
  hk := f.heap r.hk (fun e => e)
  hh := f.heap r.hh (fun e => e)
  ob := r.ob.keep0 f
  new := r.new

theorem RS.grow {w W W' : World} {kb hb B : Nat} {mv mv' : Value} {M M' : List UInt8} {h : S8} (r : RS w W kb hb mv M h) (hB : W.heap.size ≤ B) (o : Ob W' 5 mv' M') (g : W.grownBy W' mv.ownBlock) (e : ∀ k, mv'.ownBlock = some k → mv.ownBlock = some k ∨ B ≤ k) : RS w W' kb hb mv' M' h where
  fr := Fr.trans r.fr (Fr.of_grown g) (fun i hi e => by have := (r.new i e).1; omega)
  lk := r.lk
  lh := r.lh
  ne := r.ne
  hk := (Fr.of_grown g).heap r.hk (fun e => (r.new kb e).2.1 rfl)
  hh := (Fr.of_grown g).heap r.hh (fun e => (r.new hb e).2.2 rfl)
  ob := o
  new := fun k hk => by
    rcases e k hk with e | e
    · exact r.new k e
    · have := r.fr.size
      have := lt_of_heap r.hk
      have := lt_of_heap r.hh
      omega

theorem RS.seth {w W W' : World} {kb hb : Nat} {mv : Value} {M : List UInt8} {h h' : S8} (r : RS w W kb hb mv M h) (g : W'.heap[hb]? = some (.cells h'.arr 131 (0, 0))) (f : Fr (fun k => k = hb) W W') : RS w W' kb hb mv M h' where
  fr := F0.there r.fr f (fun i e => by have := r.lh; omega)
  lk := r.lk
  lh := r.lh
  ne := r.ne
  hk := f.heap r.hk r.ne
  hh := g
  ob := r.ob.keep f (fun k hk => (r.new k hk).2.2)
  new := r.new

theorem RS.swap {w W : World} {kb hb : Nat} {mv mv' : Value} {M M' : List UInt8} {h : S8} (r : RS w W kb hb mv M h) (o : Ob W 5 mv' M') (e : ∀ k, mv'.ownBlock = some k → w.heap.size ≤ k ∧ k ≠ kb ∧ k ≠ hb) : RS w W kb hb mv' M' h :=
  { r with ob := o, new := e }

/-- In the rounds: the words in block wb, v in block vb. -/
structure RV (w W : World) (kb hb : Nat) (mv : Value) (M : List UInt8) (h : S8) (wb vb : Nat) (B : List UInt8) (t : S8) : Prop where
  rs : RS w W kb hb mv M h
  hw : W.heap[wb]? = some (.cells (arrW B 64) 129 (0, 0))
  hv : W.heap[vb]? = some (.cells t.arr 131 (0, 0))
  nk : kb ≠ vb
  nh : hb ≠ vb
  nw : wb ≠ vb
  hwb : wb ≠ hb
  lv : w.heap.size ≤ vb
  own : ∀ k, mv.ownBlock = some k → k ≠ vb

theorem RV.setv {w W W' : World} {kb hb : Nat} {mv : Value} {M : List UInt8} {h : S8} {wb vb : Nat} {B : List UInt8} {t t' : S8} (r : RV w W kb hb mv M h wb vb B t) (g : W'.heap[vb]? = some (.cells t'.arr 131 (0, 0))) {n : Nat} (f : Fr (fun k => k = vb) (W.drewN n) W') : RV w W' kb hb mv M h wb vb B t' where
  rs := { r.rs with
    fr := F0.there r.rs.fr (((Fr.refl (fun k => k = vb) W).drewN n).trans f (fun _ _ e => e)) (fun i e => by have := r.lv; omega)
    hk := f.heap r.rs.hk r.nk
    hh := f.heap r.rs.hh r.nh
    ob := r.rs.ob.keep (((Fr.refl (fun k => k = vb) W).drewN n).trans f (fun _ _ e => e)) (fun k hk => r.own k hk) }
  hw := f.heap r.hw r.nw
  hv := g
  nk := r.nk
  nh := r.nh
  nw := r.nw
  hwb := r.hwb
  lv := r.lv
  own := r.own

theorem RV.seth {w W W' : World} {kb hb : Nat} {mv : Value} {M : List UInt8} {h h' : S8} {wb vb : Nat} {B : List UInt8} {t : S8} (r : RV w W kb hb mv M h wb vb B t) (g : W'.heap[hb]? = some (.cells h'.arr 131 (0, 0))) (f : Fr (fun k => k = hb) W W') : RV w W' kb hb mv M h' wb vb B t where
  rs := r.rs.seth g f
  hw := f.heap r.hw r.hwb
  hv := f.heap r.hv (fun e => r.nh e.symm)
  nk := r.nk
  nh := r.nh
  nw := r.nw
  hwb := r.hwb
  lv := r.lv
  own := r.own

/-- An empty row. -/
theorem Ob.empty (w : World) (e : Nat) : Ob (w.alloc (.cells #[] e)) e (.slice (some ⟨w.heap.size, 0, none⟩) 0 0) [] :=
  ⟨rfl, .inr ⟨w.heap.size, 0, 0, _, _, rfl, Nat.le_refl _, Nat.zero_le _, heap_alloc_last _ _, .inl rfl, by simp, fun j hj => by simp at hj⟩⟩

theorem addN_comm (t s : S8) : addN t s 8 = addN s t 8 := by simp [addN, ad, Int.add_comm]

/-- The sum, told. -/
def RSummed (w : World) (l : List UInt8) (e : Ending) (w' : World) : Prop := ∃ r, e = .returned r ∧ Ob w' 5 r (sha l) ∧ Fr F0 w w' ∧ New w r

end Go.Proofs.Ytfalaopljodmnaa
