/- Lists of bytes that own their row: [][]byte. -/
import Derived.Test.YtfalaopljodmnaaSesD
import Derived.Test.YtfalaopljodmnaaPlanZ
namespace Go.Proofs.Ytfalaopljodmnaa
open Go.RowKit

/-- 'v' is a [][]byte with a row of its own: the cells are vs, and read as ls. -/
structure Bl (W : World) (v : Value) (vs : List Value) (ls : List (List UInt8)) : Prop where
  own : Own W 25 1 v ls.length vs
  bs : ∀ (i : Nat) u l, vs[i]? = some u → ls[i]? = some l → Rt W u l

theorem Bl.nil (W : World) : Bl W (.slice none 0 0) [] [] := ⟨Own.nil W _ 1, fun i u l h => by simp at h⟩
theorem Bl.len {W : World} {v : Value} {vs : List Value} {ls : List (List UInt8)} (h : Bl W v vs ls) : vs.length = ls.length := by have := h.own.1; omega
theorem Bl.form {W : World} {v : Value} {vs : List Value} {ls : List (List UInt8)} (h : Bl W v vs ls) : ∃ ao c, v = .slice ao ls.length c := by
  obtain ⟨ao, c, e, _⟩ := h.own.rg.form
  exact ⟨ao, c, e⟩

theorem Bl.nb {W : World} {v : Value} {vs : List Value} {ls : List (List UInt8)} (h : Bl W v vs ls) : NB W (fun q => v.ownBlock = some q) := by
  intro q cs fz hq hc
  obtain ⟨cs', f', h'⟩ := h.own.tag q hq
  rw [h'] at hc; injection hc with hc; injection hc with _ hc; exact absurd hc (by decide)

theorem Bl.keep {F : Nat → Prop} {W W' : World} {v : Value} {vs : List Value} {ls : List (List UInt8)} (h : Bl W v vs ls) (f : Fr F W W') (hn : ∀ k, v.ownBlock = some k → ¬ F k) (nb : NB W F) : Bl W' v vs ls :=
  ⟨h.own.keep f hn, fun i u l hu hl => (h.bs i u l hu hl).keep f nb⟩

theorem Bl.keep0 {W W' : World} {v : Value} {vs : List Value} {ls : List (List UInt8)} (h : Bl W v vs ls) (f : Fr F0 W W') : Bl W' v vs ls := h.keep f (fun _ _ e => e) (NB.F0 W)

theorem infoL : (Try.prog.info? 25).map (fun i => (i.zero.map (·.cells.size), i.size, i.bytes)) = some (some 1, 1, 24) := by kernel_rfl

theorem info_partsL : ∃ (i0 : TypeInfo) (z : Value), Try.prog.info? 25 = some i0 ∧ i0.zero = some z ∧ z.cells.size = 1 ∧ i0.size = 1 ∧ i0.bytes = 24 := by
  have h := infoL
  cases hi : Try.prog.info? 25 with
  | none => rw [hi] at h; cases h
  | some i =>
    rw [hi] at h
    simp only [Option.map_some, Option.some.injEq, Prod.mk.injEq] at h
    cases hz : i.zero with
    | none => rw [hz] at h; simp at h
    | some z => rw [hz] at h; simp at h; exact ⟨i, z, rfl, hz, h.1, h.2.1, h.2.2⟩

theorem Rg.one1 {w : World} {xb : Nat} {u : Value} {e : TypeId} {f : Nat × Nat} (h : w.heap[xb]? = some (.cells #[u] e f)) : Rg w 1 (.slice (some ⟨xb, 0, none⟩) 1 1) 1 [u] := by
  refine ⟨rfl, _, 1, rfl, Nat.le_refl _, by simp [maxLen], (fun h => by cases h), fun _ => ⟨xb, 0, rfl, lt_of_heap h, fun j hj => ?_⟩⟩
  rw [cell_at h]
  obtain rfl : j = 0 := by simpa using hj
  rfl

theorem slice_oneCell (a : Option Addr) (n c : Nat) : (Value.slice a n c).oneCell' = true := rfl

theorem Rt.form {W : World} {u : Value} {l : List UInt8} (h : Rt W u l) : ∃ ao c, u = .slice ao l.length c := by
  obtain ⟨ao, c, e, _⟩ := h.1.form
  exact ⟨ao, c, e⟩

theorem Rt.one {W : World} {u : Value} {l : List UInt8} (h : Rt W u l) : u.oneCell' = true := by
  obtain ⟨ao, c, rfl⟩ := h.form; rfl

/-- 'append(s, b)' of bytes to a list. -/
theorem wpList_appL {w : World} {ops : Array Oper} {rest : List Oper} {o : Oper} {a : Act} {Q : Exit → Act → World → Prop} (s x : Operand)
    (ho : o.op = .call { callee := .builtin .append, args := #[s, x], argTypes := #[79, 79] })
    (v u : Value) (vs : List Value) (ls : List (List UInt8)) (l : List UInt8) (xb : Nat) (e : TypeId) (f : Nat × Nat) (hs : a.eval s = v) (hx : a.eval x = .slice (some ⟨xb, 0, none⟩) 1 1) (hb : w.heap[xb]? = some (.cells #[u] e f)) (h : Bl w v vs ls) (hu : Rt w u l) (hlen : ls.length ≤ 1000000) (hgd : Region.wanted o (yielded ops a.tmps) = true)
    (K : ∀ v' w', Bl w' v' (vs ++ [u]) (ls ++ [l]) → w.grownBy w' v.ownBlock → (∀ k, v'.ownBlock = some k → v.ownBlock = some k ∨ w.heap.size ≤ k) → wpList Try.prog ops Q rest (a.put o.dst v') w') : wpList Try.prog ops Q (o :: rest) a w := by
  obtain ⟨i0, z, hi, hz0, hzs, hz1, hz2⟩ := info_partsL
  refine wpList_appOwn hgd s x 79 79 ho 25 i0 z 1 Try.underlying79 hi hz0 hz1 hzs (by omega) v _ ls.length 1 vs [u] hs hx h.own (Rg.src Try.underlying79 (Rg.one1 hb) (by intro u' hu'; simp at hu'; subst hu'; exact hu.one)) (by omega) (by rw [hz2]; omega) fun v' w' h1 h2 h3 _ => K v' w' ⟨?_, ?_⟩ h2 h3
  · rw [List.length_append]; exact h1
  · have hf := Fr.of_grown h2
    have nb : NB w (fun k => v.ownBlock = some k) := h.nb
    intro i u' l' hu' hl'
    rcases Nat.lt_or_ge i ls.length with hi | hi
    · rw [List.getElem?_append_left (by rw [h.len]; exact hi)] at hu'
      rw [List.getElem?_append_left hi] at hl'
      exact (h.bs i u' l' hu' hl').keep hf nb
    · have hi' : i = ls.length := by
        have := (List.getElem?_eq_some_iff.1 hl').1
        simp at this; omega
      subst hi'
      rw [← h.len, List.getElem?_concat_length] at hu'
      rw [List.getElem?_concat_length] at hl'
      cases hu'; cases hl'
      exact hu.keep hf nb

/-- An element. -/
theorem Bl.get {W : World} {v : Value} {vs : List Value} {ls : List (List UInt8)} (h : Bl W v vs ls) (i : Nat) (l : List UInt8) (hi : ls[i]? = some l) :
    ∃ b o c u, v = .slice (some ⟨b, o, none⟩) ls.length c ∧ ls.length ≤ c ∧ vs[i]? = some u ∧ W.cell? ⟨b, o + i, none⟩ = some u ∧ Rt W u l := by
  have hlt := (List.getElem?_eq_some_iff.1 hi).1
  obtain ⟨hl, ao, c, rfl, h1, _, _, h4⟩ := h.own.rg
  obtain ⟨b, o, rfl, _, h6⟩ := h4 (by omega)
  have hv : i < vs.length := by rw [h.len]; exact hlt
  exact ⟨b, o, c, vs[i], rfl, h1, List.getElem?_eq_getElem hv, h6 i hv, h.bs i _ l (List.getElem?_eq_getElem hv) hi⟩

/-- A list of one. -/
theorem Bl.one {W : World} {v : Value} {us : List Value} {l : List UInt8} (h : Bl W v us [l]) : ∃ b o c ua uc, v = .slice (some ⟨b, o, none⟩) 1 c ∧ us = [.slice ua l.length uc] ∧ Rt W (.slice ua l.length uc) l := by
  obtain ⟨b, o, c, u, e, _, hu, _, hr⟩ := h.get 0 l rfl
  obtain ⟨ua, uc, rfl⟩ := hr.form
  have hl := h.len
  refine ⟨b, o, c, ua, uc, e, ?_, hr⟩
  match us, hl, hu with
  | [x], _, hu => simpa using hu

theorem Bl.cell {W : World} {b o n c : Nat} {us : List Value} {ls : List (List UInt8)} (h : Bl W (.slice (some ⟨b, o, none⟩) n c) us ls) (i : Nat) (u : Value) (hu : us[i]? = some u) : W.cell? ⟨b, o + i, none⟩ = some u := by
  have hi : i < ls.length := by rw [← h.len]; exact (List.getElem?_eq_some_iff.1 hu).1
  obtain ⟨b', o', c', u', e, _, hu', hc, _⟩ := h.get i _ (List.getElem?_eq_getElem hi)
  cases e
  rw [hu] at hu'; cases hu'
  exact hc

theorem Bl.cell0 {W : World} {b o n c : Nat} {u : Value} {us : List Value} {ls : List (List UInt8)} (h : Bl W (.slice (some ⟨b, o, none⟩) n c) (u :: us) ls) : W.cell? ⟨b, o, none⟩ = some u := h.cell 0 u rfl

theorem Bl.rt0 {W : World} {v u : Value} {us : List Value} {l : List UInt8} {ls : List (List UInt8)} (h : Bl W v (u :: us) (l :: ls)) : Rt W u l := h.bs 0 u l rfl rfl

end Go.Proofs.Ytfalaopljodmnaa
