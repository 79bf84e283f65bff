/- session: meets. -/
import Derived.Test.YtfalaopljodmnaaSesH
namespace Go.Proofs.Ytfalaopljodmnaa
open Go.RowKit Go.Maps

def unM (m : Msg) : Msg := { m with sent := false }

/-- The first k are taken back. -/
def unK (l : List Msg) (k : Nat) : List Msg := (l.take k).map unM ++ l.drop k

theorem unK_len (l : List Msg) (k : Nat) : (unK l k).length = l.length := by simp [unK]; omega

theorem unK_get {l : List Msg} {k : Nat} {m : Msg} (h : l[k]? = some m) : (unK l k)[k]? = some m := by
  have hk := (List.getElem?_eq_some_iff.1 h).1
  unfold unK
  rw [List.getElem?_append_right (by simp; omega)]
  have : k - ((l.take k).map unM).length = 0 := by simp; omega
  rw [this, List.getElem?_drop]
  simpa using h

theorem unK_put {l : List Msg} {k : Nat} {m : Msg} (h : l[k]? = some m) : unK l (k + 1) = (unK l k).set k (unM m) := by
  have hk := (List.getElem?_eq_some_iff.1 h)
  have hk1 := hk.1
  unfold unK
  rw [List.take_add_one, h, List.map_append, List.drop_eq_getElem_cons hk.1, hk.2, List.set_append_right _ _ (by simp; omega)]
  have : k - ((l.take k).map unM).length = 0 := by simp; omega
  rw [this]
  simp

/-- Another map in a session. -/
theorem Se.remap {W W' : World} {sb : Nat} {S S' : St} {rv : Value} {vs : List Value} {mb mb' N N' : Nat} (h : Se W sb S rv vs mb N)
    (hb : W'.heap[sb]? = some (.cells #[.int .i64 S'.epoch, .int .i64 S'.wait, .int .i64 S'.first, rv, .int .i64 S'.peer, .int .i64 S'.have_, .map (some mb'), .bool S'.tell] 116 (0, 0)))
    (f : Fr (fun q => q = sb) W W') (hl : S'.l = S.l) (he : EM W' mb' S'.early N') : Se W' sb S' rv vs mb' N' where
  blk := hb
  len := by rw [hl]; exact h.len
  row := by rw [hl]; exact h.row.keep f (fun q hq e => h.ap (e ▸ hq))
  bs := fun i v m hi => by rw [hl] at hi; exact ⟨(h.bs i v m hi).1.keep f (NB.sb h), (h.bs i v m hi).2⟩
  em := he
  ap := h.ap

/-- On the way of meets. -/
def MeK (w W : World) (sb : Nat) (S : St) (e : Int) (rv : Value) (vs : List Value) (mb mb' : Nat) (k : Nat) : Prop :=
  Se W sb { meetSt S e with l := unK S.l k } rv vs mb' 0 ∧ Fr (SeM sb rv mb) w W

theorem MeK.start {w : World} {sb : Nat} {S : St} {e : Int} {rv : Value} {vs : List Value} {mb N : Nat} (h : Se w sb S rv vs mb N) :
    MeK w ((((((w.setCell ⟨sb, 4, none⟩ (.int .i64 e)).setCell ⟨sb, 5, none⟩ (.int .i64 0)).setCell ⟨sb, 6, none⟩ (.map (some w.heap.size))).setCell ⟨sb, 2, none⟩ (.int .i64 1)).setCell ⟨sb, 7, none⟩ (.bool true)).alloc (.map #[] 0)) sb S e rv vs mb w.heap.size 0 := by
  have f : Fr (fun q => q = sb) w (((((w.setCell ⟨sb, 4, none⟩ (.int .i64 e)).setCell ⟨sb, 5, none⟩ (.int .i64 0)).setCell ⟨sb, 6, none⟩ (.map (some w.heap.size))).setCell ⟨sb, 2, none⟩ (.int .i64 1)).setCell ⟨sb, 7, none⟩ (.bool true)) :=
    (((((Fr.refl (fun q => q = sb) w).setCell (p := ⟨sb, 4, none⟩) (fun _ => rfl) _).setCell (p := ⟨sb, 5, none⟩) (fun _ => rfl) _).setCell (p := ⟨sb, 6, none⟩) (fun _ => rfl) _).setCell (p := ⟨sb, 2, none⟩) (fun _ => rfl) _).setCell (p := ⟨sb, 7, none⟩) (fun _ => rfl) _
  have hsz : (((((w.setCell ⟨sb, 4, none⟩ (.int .i64 e)).setCell ⟨sb, 5, none⟩ (.int .i64 0)).setCell ⟨sb, 6, none⟩ (.map (some w.heap.size))).setCell ⟨sb, 2, none⟩ (.int .i64 1)).setCell ⟨sb, 7, none⟩ (.bool true)).heap.size = w.heap.size := by simp [World.setCell]
  have hlt := h.lt sb (.inl rfl)
  have hb := heap_setCell (heap_setCell (heap_setCell (heap_setCell (heap_setCell h.blk 4 (.int .i64 e)) 5 (.int .i64 0)) 6 (.map (some w.heap.size))) 2 (.int .i64 1)) 7 (.bool true)
  generalize ((((w.setCell ⟨sb, 4, none⟩ (.int .i64 e)).setCell ⟨sb, 5, none⟩ (.int .i64 0)).setCell ⟨sb, 6, none⟩ (.map (some w.heap.size))).setCell ⟨sb, 2, none⟩ (.int .i64 1)).setCell ⟨sb, 7, none⟩ (.bool true) = W5 at *
  have fa : Fr F0 W5 (W5.alloc (.map #[] 0)) := (Fr.refl F0 W5).alloc _
  have f2 : Fr (fun q => q = sb) w (W5.alloc (.map #[] 0)) := f.alloc _
  refine ⟨h.remap (fa.heap hb (fun e => e)) f2 (by simp [unK]) ?_, f2.mono fun q _ e => .inl e⟩
  rw [← hsz]
  exact EM.made W5

theorem MeK.next {w W : World} {sb : Nat} {S : St} {e : Int} {g o n c : Nat} {vs : List Value} {mb mb' k : Nat} {m : Msg} (h : MeK w W sb S e (.slice (some ⟨g, o, none⟩) n c) vs mb mb' k) (hn : S.l.length = n) (hm : S.l[k]? = some m) :
    MeK w (W.setCell ⟨g, o + k * 3 + 1, none⟩ (.bool false)) sb S e (.slice (some ⟨g, o, none⟩) n c) vs mb mb' (k + 1) := by
  obtain ⟨h1, h2⟩ := h
  have hl : (unK S.l k).length = n := by rw [unK_len, hn]
  have := Se.unsend (S := { meetSt S e with l := unK S.l k }) (c := c) (by dsimp only; rw [hl]; exact h1) k m (unK_get hm)
  refine ⟨?_, h2.setCell (p := ⟨g, o + k * 3 + 1, none⟩) (fun _ => .inr (.inl rfl)) _⟩
  rw [unK_put hm]
  dsimp only at this
  rw [hl] at this
  exact this

theorem MeK.fin {w W : World} {sb : Nat} {S : St} {e : Int} {rv : Value} {vs : List Value} {mb mb' : Nat} (h : MeK w W sb S e rv vs mb mb' S.l.length) : Se W sb (meetSt S e) rv vs mb' 0 ∧ Fr (SeM sb rv mb) w W := by
  obtain ⟨h1, h2⟩ := h
  have : unK S.l S.l.length = S.l.map fun m => { m with sent := false } := by simp [unK, unM]
  rw [this] at h1
  exact ⟨h1, h2⟩

set_option maxRecDepth 100000 in
set_option maxHeartbeats 1600000 in
theorem meets_c (sb : Nat) (S : St) (e : Int) (rv : Value) (vs : List Value) (mb N : Nat) (w : World) (h : Se w sb S rv vs mb N) (hl : S.l.length ≤ 200) :
    Calls Try.prog 73 #[.pointer (some ⟨sb, 0, none⟩), .int .i64 e] w fun en w' => ∃ mb', en = .returned (.tuple #[]) ∧ Se w' sb (meetSt S e) rv vs mb' 0 ∧ Fr (SeM sb rv mb) w w' ∧ w.heap.size ≤ mb' := by
  obtain ⟨ao, c, rfl⟩ := h.form
  have H := hid h
  have hm := fun w : World => run_makeMap (P := Try.prog) 114 w
  have hz : sb < w.heap.size := h.lt sb (.inl rfl)
  have fz : ∀ i, w.frozen? ⟨sb, i, none⟩ = false := frozen_at h.blk
  obtain ⟨n, HN⟩ : ∃ n, Hid (S.l.length = n) := ⟨_, hid rfl⟩
  have c3 := h.c3
  have c2 : w.cell? ⟨sb, 2, none⟩ = some (.int .i64 S.first) := by rw [cell_at h.blk]; rfl
  have c4 : w.cell? ⟨sb, 4, none⟩ = some (.int .i64 S.peer) := by rw [cell_at h.blk]; rfl
  have c5 : w.cell? ⟨sb, 5, none⟩ = some (.int .i64 S.have_) := by rw [cell_at h.blk]; rfl
  have c6 : w.cell? ⟨sb, 6, none⟩ = some (.map (some mb)) := by rw [cell_at h.blk]; rfl
  have c7 : w.cell? ⟨sb, 7, none⟩ = some (.bool S.tell) := by rw [cell_at h.blk]; rfl
  rw [HN.out] at c3 H hl ⊢
  clear h
  go_enter Try.func73, Try.ntmps73
  go_wp2_with fail
  have HK0 := hid (MeK.start (e := e) H.out)
  clear c2 c3 c4 c5 c6 c7 fz hm
  generalize World.alloc _ _ = W6 at *
  obtain ⟨mb', HMB⟩ : ∃ mb', Hid (w.heap.size = mb') := ⟨_, hid rfl⟩
  rw [HMB.out] at HK0 ⊢
  go_loopg [27] n (fun gh i wr => ∃ k : Nat, k + gh = n ∧ i = .int .i64 k ∧ Hid (MeK w wr sb S e (.slice ao n c) vs mb mb' k))
  case atStart => exact ⟨0, by omega, rfl, HK0⟩
  case round =>
    obtain ⟨k, hkg, rfl, HK⟩ := hrel
    have HKG := hid hkg
    by_cases hlt : k < n
    · have hkn : k < S.l.length := by have := HN.out; omega
      obtain ⟨m, hm⟩ : ∃ m, S.l[k]? = some m := ⟨_, List.getElem?_eq_getElem hkn⟩
      obtain ⟨g, o, c', v, e1, hgc, hgs, hgm, hv, hrt, hbl, cb, cs, ca, fs, fa⟩ := HK.out.1.at k m (unK_get hm)
      injection e1 with e1 e2 e3
      clear e2
      subst e1 e3
      have c3 := HK.out.1.c3
      have hki : (k : Int) < (n : Int) := by omega
      have HKN := hid (MeK.next HK.out HN.out hm)
      clear hgc hgs hgm hv hrt hbl cb ca fa hm hkg hkn HK0
      go_wp2_with fail
      go_roundg (gk - 1)
      case measure => have := HKG.out; omega
      case rel => exact ⟨k + 1, by have := HKG.out; omega, by go_num, HKN⟩
    · have hkn : k = n := by omega
      subst hkn
      have HF := hid (MeK.fin (by rw [HN.out]; exact HK.out))
      go_wp2_with fail
      go_end0
      exact ⟨_, rfl, HF.out.1, HF.out.2, Nat.le_of_eq HMB.out⟩

end Go.Proofs.Ytfalaopljodmnaa
