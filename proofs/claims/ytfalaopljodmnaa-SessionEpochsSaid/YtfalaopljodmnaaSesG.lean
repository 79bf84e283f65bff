/- session: what Out changes. No walk. -/
import Derived.Test.YtfalaopljodmnaaSesE
namespace Go.Proofs.Ytfalaopljodmnaa
open Go.RowKit

theorem Own.set {W : World} {e size g o n c : Nat} {xs : List Value} (h : Own W e size (.slice (some ⟨g, o, none⟩) n c) n xs) (j : Nat) (u : Value) (hj : j < xs.length) :
    Own (W.setCell ⟨g, o + j, none⟩ u) e size (.slice (some ⟨g, o, none⟩) n c) n (xs.set j u) := by
  refine ⟨by rw [List.length_set]; exact h.1, ?_⟩
  rcases h.2 with ⟨h0, _⟩ | ⟨g', o', c', cur, f, h0, h1, h2, h3, h4, h5, h6⟩
  · cases h0
  · cases h0
    refine .inr ⟨g, o, c, _, f, rfl, h1, h2, heap_setCell h3 _ _, by simpa using h4, by simpa using h5, fun i hi => ?_⟩
    rw [List.length_set] at hi
    have hoj : o + j < cur.size := (Array.getElem?_eq_some_iff.1 (h6 j hj)).1
    by_cases hij : i = j
    · subst hij
      rw [Array.getElem?_setIfInBounds_self_of_lt hoj, List.getElem_set_self]
    · rw [Array.getElem?_setIfInBounds_ne (by omega), h6 i hi, List.getElem_set_ne (by omega)]

theorem mcells_upd : ∀ (l : List (Value × Msg)) (k : Nat) (v : Value) (m : Msg) (s : Bool) (a : Int), l[k]? = some (v, m) →
    ((mcells l).set (k * 3 + 1) (.bool s)).set (k * 3 + 2) (.int .i64 a) = mcells (l.set k (v, { m with sent := s, at_ := a }))
  | [], k, v, m, s, a, h => by simp at h
  | (v', m') :: r, 0, v, m, s, a, h => by cases h; rfl
  | (v', m') :: r, k + 1, v, m, s, a, h => by
    have := mcells_upd r k v m s a (by simpa using h)
    rw [show (k + 1) * 3 + 1 = (k * 3 + 1) + 1 + 1 + 1 from by omega, show (k + 1) * 3 + 2 = (k * 3 + 2) + 1 + 1 + 1 from by omega]
    simp only [mcells, List.set_cons_succ, this]

theorem mcells_sent : ∀ (l : List (Value × Msg)) (k : Nat) (v : Value) (m : Msg) (s : Bool), l[k]? = some (v, m) →
    (mcells l).set (k * 3 + 1) (.bool s) = mcells (l.set k (v, { m with sent := s }))
  | [], k, v, m, s, h => by simp at h
  | (v', m') :: r, 0, v, m, s, h => by cases h; rfl
  | (v', m') :: r, k + 1, v, m, s, h => by
    have := mcells_sent r k v m s (by simpa using h)
    rw [show (k + 1) * 3 + 1 = (k * 3 + 1) + 1 + 1 + 1 from by omega]
    simp only [mcells, List.set_cons_succ, this]

theorem zip_set {α β : Type} : ∀ (a : List α) (b : List β) (k : Nat) (x : α) (y : β), a[k]? = some x → (a.zip b).set k (x, y) = a.zip (b.set k y)
  | [], _, _, _, _, h => by simp at h
  | _ :: _, [], _, _, _, _ => by simp
  | _ :: _, _ :: _, 0, _, _, h => by cases h; rfl
  | a :: r, b :: s, k + 1, x, y, h => by simp [zip_set r s k x y (by simpa using h)]

theorem zip_get {α β : Type} {a : List α} {b : List β} {k : Nat} {x : α} {y : β} (h1 : a[k]? = some x) (h2 : b[k]? = some y) : (a.zip b)[k]? = some (x, y) := by
  rw [List.getElem?_zip_eq_some]; exact ⟨h1, h2⟩

/-- A message in memory. -/
theorem Se.at {W : World} {sb : Nat} {S : St} {rv : Value} {vs : List Value} {mb N : Nat} (h : Se W sb S rv vs mb N) (k : Nat) (m : Msg) (hm : S.l[k]? = some m) :
    ∃ g o c v, rv = .slice (some ⟨g, o, none⟩) S.l.length c ∧ S.l.length ≤ c ∧ g ≠ sb ∧ g ≠ mb ∧ vs[k]? = some v ∧ Rt W v m.b ∧ m.b.length ≤ 40000 ∧ W.cell? ⟨g, o + k * 3, none⟩ = some v ∧ W.cell? ⟨g, o + k * 3 + 1, none⟩ = some (.bool m.sent) ∧ W.cell? ⟨g, o + k * 3 + 2, none⟩ = some (.int .i64 m.at_) ∧
      W.frozen? ⟨g, o + k * 3 + 1, none⟩ = false ∧ W.frozen? ⟨g, o + k * 3 + 2, none⟩ = false := by
  have hk := (List.getElem?_eq_some_iff.1 hm).1
  have hv : k < vs.length := by rw [h.len]; exact hk
  have hz := zip_get (List.getElem?_eq_getElem hv) hm
  obtain ⟨e1, e2, e3⟩ := mcells_get _ k _ m hz
  have hb := h.bs k _ m hz
  obtain ⟨hl, h2⟩ := h.row
  have sep := h.sep
  have ap := h.ap
  rcases h2 with ⟨_, h0⟩ | ⟨g, o, c, cur, f, rfl, h1, h2, h3, h4, h5, h6⟩
  · omega
  · obtain ⟨l1, q1⟩ := List.getElem?_eq_some_iff.1 e1
    obtain ⟨l2, q2⟩ := List.getElem?_eq_some_iff.1 e2
    obtain ⟨l3, q3⟩ := List.getElem?_eq_some_iff.1 e3
    refine ⟨g, o, c, vs[k], rfl, h1, fun e => ap (by simp [Value.ownBlock, e]), fun e => sep.2 (by simp [Value.ownBlock, e]), List.getElem?_eq_getElem hv, hb.1, hb.2, ?_, ?_, ?_, frozen_at' h3 h4 _ ?_, frozen_at' h3 h4 _ ?_⟩
    · rw [cell_at h3, h6 _ l1, q1]
    · rw [cell_at h3, Nat.add_assoc, h6 _ l2, q2]
    · rw [cell_at h3, Nat.add_assoc, h6 _ l3, q3]
    · have := (Array.getElem?_eq_some_iff.1 (h6 _ l2)).1; omega
    · have := (Array.getElem?_eq_some_iff.1 (h6 _ l3)).1; omega

theorem Se.row_fr {W : World} {g o : Nat} {u u' : Value} : Fr (fun k => k = g) W ((W.setCell ⟨g, o + 1, none⟩ u).setCell ⟨g, o + 2, none⟩ u') :=
  ((Fr.refl (fun k => k = g) W).setCell (p := ⟨g, o + 1, none⟩) (fun _ => rfl) u).setCell (p := ⟨g, o + 2, none⟩) (fun _ => rfl) u'

/-- A message is marked as sent. -/
theorem Se.mark {W : World} {sb : Nat} {S : St} {g o c : Nat} {vs : List Value} {mb N : Nat} (h : Se W sb S (.slice (some ⟨g, o, none⟩) S.l.length c) vs mb N) (k : Nat) (m : Msg) (hm : S.l[k]? = some m) (a : Int) :
    Se ((W.setCell ⟨g, o + k * 3 + 1, none⟩ (.bool true)).setCell ⟨g, o + k * 3 + 2, none⟩ (.int .i64 a)) sb { S with l := S.l.set k { m with sent := true, at_ := a } } (.slice (some ⟨g, o, none⟩) S.l.length c) vs mb N := by
  have hk := (List.getElem?_eq_some_iff.1 hm).1
  have hv : k < vs.length := by rw [h.len]; exact hk
  have hz := zip_get (List.getElem?_eq_getElem hv) hm
  have f : Fr (fun q => q = g) W ((W.setCell ⟨g, o + k * 3 + 1, none⟩ (.bool true)).setCell ⟨g, o + k * 3 + 2, none⟩ (.int .i64 a)) := Se.row_fr
  have nb : NB W (fun q => q = g) := fun q cs fz hq hc => h.nb q cs fz (.inr (.inl (by simp [Value.ownBlock, hq]))) hc
  have sep := h.sep
  have ap := h.ap
  have hl : (mcells (vs.zip S.l)).length = S.l.length * 3 := h.row.1
  refine ⟨f.heap h.blk (fun e => ap (by simp [Value.ownBlock, e])), by simp [h.len], ?_, ?_, h.em.keep f (fun e => sep.2 (by simp [Value.ownBlock, e])) nb, ap⟩
  · have := (h.row.set (k * 3 + 1) (.bool true) (by omega)).set (k * 3 + 2) (.int .i64 a) (by rw [List.length_set]; omega)
    rw [mcells_upd _ k _ m true a hz, zip_set _ _ _ _ _ (List.getElem?_eq_getElem hv)] at this
    rw [Nat.add_assoc, Nat.add_assoc]
    simpa using this
  · intro i v m' hi
    rw [← zip_set _ _ _ _ _ (List.getElem?_eq_getElem hv)] at hi
    by_cases hik : k = i
    · subst hik
      rw [List.getElem?_set_self (by simp; omega)] at hi
      cases hi
      exact ⟨(h.bs k _ m hz).1.keep f nb, (h.bs k _ m hz).2⟩
    · rw [List.getElem?_set_ne hik] at hi
      exact ⟨(h.bs i v m' hi).1.keep f nb, (h.bs i v m' hi).2⟩

/-- 'sent' alone is taken back. -/
theorem Se.unsend {W : World} {sb : Nat} {S : St} {g o c : Nat} {vs : List Value} {mb N : Nat} (h : Se W sb S (.slice (some ⟨g, o, none⟩) S.l.length c) vs mb N) (k : Nat) (m : Msg) (hm : S.l[k]? = some m) :
    Se (W.setCell ⟨g, o + k * 3 + 1, none⟩ (.bool false)) sb { S with l := S.l.set k { m with sent := false } } (.slice (some ⟨g, o, none⟩) S.l.length c) vs mb N := by
  have hk := (List.getElem?_eq_some_iff.1 hm).1
  have hv : k < vs.length := by rw [h.len]; exact hk
  have hz := zip_get (List.getElem?_eq_getElem hv) hm
  have f : Fr (fun q => q = g) W (W.setCell ⟨g, o + k * 3 + 1, none⟩ (.bool false)) := (Fr.refl (fun k => k = g) W).setCell (p := ⟨g, o + k * 3 + 1, none⟩) (fun _ => rfl) _
  have nb : NB W (fun q => q = g) := fun q cs fz hq hc => h.nb q cs fz (.inr (.inl (by simp [Value.ownBlock, hq]))) hc
  have sep := h.sep
  have ap := h.ap
  have hl : (mcells (vs.zip S.l)).length = S.l.length * 3 := h.row.1
  refine ⟨f.heap h.blk (fun e => ap (by simp [Value.ownBlock, e])), by simp [h.len], ?_, ?_, h.em.keep f (fun e => sep.2 (by simp [Value.ownBlock, e])) nb, ap⟩
  · have := h.row.set (k * 3 + 1) (.bool false) (by omega)
    rw [mcells_sent _ k _ m false hz, zip_set _ _ _ _ _ (List.getElem?_eq_getElem hv)] at this
    rw [Nat.add_assoc]
    simpa using this
  · intro i v m' hi
    rw [← zip_set _ _ _ _ _ (List.getElem?_eq_getElem hv)] at hi
    by_cases hik : k = i
    · subst hik
      rw [List.getElem?_set_self (by simp; omega)] at hi
      cases hi
      exact ⟨(h.bs k _ m hz).1.keep f nb, (h.bs k _ m hz).2⟩
    · rw [List.getElem?_set_ne hik] at hi
      exact ⟨(h.bs i v m' hi).1.keep f nb, (h.bs i v m' hi).2⟩

/-- On Out's way: the first k messages are done. -/
def outK (S : St) (now : Int) (k : Nat) : List Msg := (S.l.take k).map (updM S now) ++ S.l.drop k

theorem outK_len (S : St) (now : Int) (k : Nat) : (outK S now k).length = S.l.length := by simp [outK]; omega

theorem outK_get {S : St} (now : Int) {k : Nat} {m : Msg} (h : S.l[k]? = some m) : (outK S now k)[k]? = some m := by
  have hk := (List.getElem?_eq_some_iff.1 h).1
  unfold outK
  rw [List.getElem?_append_right (by simp; omega)]
  have : k - ((S.l.take k).map (updM S now)).length = 0 := by simp; omega
  rw [this, List.getElem?_drop]
  simpa using h

theorem outK_keep {S : St} {now : Int} {k : Nat} {m : Msg} (h : S.l[k]? = some m) (hd : due S now m = false) : outK S now (k + 1) = outK S now k := by
  unfold outK
  rw [List.take_add_one, h, List.map_append]
  have hk := (List.getElem?_eq_some_iff.1 h)
  rw [List.drop_eq_getElem_cons hk.1, hk.2]
  simp [updM, hd]

theorem outK_put {S : St} {now : Int} {k : Nat} {m : Msg} (h : S.l[k]? = some m) (hd : due S now m = true) : outK S now (k + 1) = (outK S now k).set k { m with sent := true, at_ := now } := by
  unfold outK
  have hk := (List.getElem?_eq_some_iff.1 h)
  have hk1 := hk.1
  rw [List.take_add_one, h, List.map_append, List.drop_eq_getElem_cons hk.1, hk.2, List.set_append_right _ _ (by simp; omega)]
  have : k - ((S.l.take k).map (updM S now)).length = 0 := by simp; omega
  rw [this]
  simp [updM, hd]

theorem frs_keep {S : St} {now : Int} {k : Nat} {m : Msg} (h : S.l[k]? = some m) (hd : due S now m = false) : frs S now S.first (S.l.take (k + 1)) = frs S now S.first (S.l.take k) := by
  rw [List.take_add_one, h, frs_app]; simp [frs, hd]

theorem frs_put {S : St} {now : Int} {k : Nat} {m : Msg} (h : S.l[k]? = some m) (hd : due S now m = true) : frs S now S.first (S.l.take (k + 1)) = frs S now S.first (S.l.take k) ++ [frameB S (S.first + k) m.b] := by
  have hk := (List.getElem?_eq_some_iff.1 h).1
  rw [List.take_add_one, h, frs_app]
  have : ((S.l.take k).length : Int) = k := by simp; omega
  simp [frs, hd]; rw [show min k S.l.length = k from by omega]

end Go.Proofs.Ytfalaopljodmnaa
