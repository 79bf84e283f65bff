/- A []Item among the arguments: opened. -/
import Derived.Test.YtfalaopljodmnaaLaw3
import Derived.Deep.Slices
import Derived.SizedLaws
import Derived.ProofKit
import Derived.OpenShut
import Derived.ChangeOld
namespace Go.Proofs.Ytfalaopljodmnaa
open Go.ChangeShapes Go.WideShapes Go.ChangeAt Go.RowKit Go.Deep

theorem list4 {α : Type} {l : List α} (h : l.length = 4) : ∃ a b c d, l = [a, b, c, d] := by
  match l, h with
  | [a, b, c, d], _ => exact ⟨a, b, c, d, rfl⟩

theorem item_cells {H : Type} {enc : TypeId × Value → H} {w : World} {base : Nat} {spare : Nat → Bool} {held : Bool} {n b p : Nat} {cs : List Value} {x : DataW H × List MemPlace}
    (hc : ∀ i, i < 4 → w.cell? ⟨b, p + i, none⟩ = cs[i]?) (h : DataW.trod enc Try.prog w base spare held n 52 cs = some x) : ∃ it : It, ItAt w b p it := by
  obtain ⟨xs, k, _, _, hl, hxl, hf⟩ := DataW.trod_struct Try.underlying52 h
  have hl4 : cs.length = 4 := by rw [hl]; kernel_rfl
  have hx4 : xs.length = 4 := hxl
  obtain ⟨v0, v1, v2, v3, rfl⟩ := list4 hl4
  obtain ⟨y0, y1, y2, y3, rfl⟩ := list4 hx4
  have c3 : Try.prog.cellsOf 3 = 1 := by kernel_rfl
  have c37 : Try.prog.cellsOf 37 = 1 := by kernel_rfl
  have c9 : Try.prog.cellsOf 9 = 1 := by kernel_rfl
  have g0 : DataW.trod enc Try.prog w base spare held k 3 (List.take (Try.prog.cellsOf 3) (List.drop 0 [v0, v1, v2, v3])) = some y0 := hf 0 _ rfl
  have g1 : DataW.trod enc Try.prog w base spare held k 3 (List.take (Try.prog.cellsOf 3) (List.drop 1 [v0, v1, v2, v3])) = some y1 := hf 1 _ rfl
  have g2 : DataW.trod enc Try.prog w base spare held k 37 (List.take (Try.prog.cellsOf 37) (List.drop 2 [v0, v1, v2, v3])) = some y2 := hf 2 _ rfl
  have g3 : DataW.trod enc Try.prog w base spare held k 9 (List.take (Try.prog.cellsOf 9) (List.drop 3 [v0, v1, v2, v3])) = some y3 := hf 3 _ rfl
  clear hf hxl hl h
  rw [c3] at g0 g1
  rw [c37] at g2
  rw [c9] at g3
  have g0 : DataW.trod enc Try.prog w base spare held k 3 [v0] = some y0 := g0
  have g1 : DataW.trod enc Try.prog w base spare held k 3 [v1] = some y1 := g1
  have g2 : DataW.trod enc Try.prog w base spare held k 37 [v2] = some y2 := g2
  have g3 : DataW.trod enc Try.prog w base spare held k 9 [v3] = some y3 := g3
  obtain ⟨a0, e0, _, _⟩ := DataW.trod_int Try.underlying3 g0
  obtain ⟨a1, e1, _, _⟩ := DataW.trod_int Try.underlying3 g1
  obtain ⟨a2, e2, _, w2⟩ := DataW.trod_int Try.underlying37 g2
  obtain ⟨a3, e3, _, hs⟩ := DataW.trod_string Try.underlying9 g3
  have w2' : 0 ≤ a2 ∧ a2 < 18446744073709551616 := by simp [Lit.wf, IntKind.min, IntKind.max, IntKind.signed, IntKind.bits] at w2; omega
  cases e0
  cases e1
  cases e2
  cases e3
  exact ⟨⟨a0, a1, a2.toNat, a3⟩, hc 0 (by omega), hc 1 (by omega), by rw [hc 2 (by omega)]; simp; omega, hc 3 (by omega), hs, by simp; omega⟩

theorem open_items {H : Type} {enc : TypeId × Value → H} {w : World} {base : Nat} {spare : Nat → Bool} {held : Bool} {a : Option Addr} {len cap : Nat} {d : DataW H} {ps : List MemPlace}
    (h : DataW.Trod enc Try.prog w base spare held 22 (.slice a len cap) d ps) (hz : ∀ elems sp, d = .slice elems sp → (elems.length + sp.length) * Try.prog.bytesOf 52 ≤ reachBytes) :
    ∃ l : List It, Its w (.slice a len cap) l := by
  obtain ⟨fuel, hf⟩ := h
  rcases open_slice Try.underlying22 hf with ⟨hcs, _⟩ | ⟨x, len', cap', m, n, D, Pl, hcs, hb, hl, hm, hmm, hx, hat⟩
  · simp [Value.cells] at hcs
    obtain ⟨rfl, rfl, rfl⟩ := hcs
    exact ⟨[], none, 0, rfl, Nat.le_refl _, by simp, fun i x hx => by simp at hx⟩
  · simp [Value.cells] at hcs
    obtain ⟨rfl, rfl, rfl⟩ := hcs
    have hbytes : Try.prog.bytesOf 52 = 40 := by kernel_rfl
    have hcells : Try.prog.cellsOf 52 = 4 := by kernel_rfl
    rw [hbytes] at hz
    rw [hcells] at hat
    have hlen : len ≤ 140737488351232 := by
      have := hz _ _ (Prod.mk.inj hx).1
      simp only [List.length_map, List.length_range, reachBytes] at this
      omega
    have hlm : len ≤ m := by rw [hmm]; split <;> omega
    have each : ∀ i, i < len → ∃ q : It × Nat × Nat, x = ⟨q.2.1, q.2.2, none⟩ ∧ q.2.1 < w.heap.size ∧ ItAt w q.2.1 (q.2.2 + i * 4) q.1 := by
      intro i hi
      obtain ⟨cs', h1, h2⟩ := hat i (by omega)
      obtain ⟨_, hlen4, hcell⟩ := World.cells?_some h1
      obtain ⟨b, o, sp⟩ := x
      have h0 := hcell 1 (by omega)
      have hsome : ∃ u, cs'[1]? = some u := ⟨_, List.getElem?_eq_getElem (by omega)⟩
      obtain ⟨u, hu⟩ := hsome
      rw [hu] at h0
      have hadd : ∀ p q, ((⟨b, o, sp⟩ : Addr).add p).add (q + 1) = ⟨b, o + (p + (q + 1)), none⟩ := by
        intro p q
        rw [add_add]
        simp [Addr.add]
      have hbw : b < w.heap.size := by
        have := World.block_lt_of_cell? w _ h0
        rw [hadd (i * 4) 0] at this
        exact this
      have hsp : sp = none := by
        by_cases hi0 : i = 0
        · have h00 := hcell 0 (by omega)
          rw [hi0] at h00
          obtain ⟨u0, hu0⟩ : ∃ u, cs'[0]? = some u := ⟨_, List.getElem?_eq_getElem (by omega)⟩
          rw [hu0] at h00
          cases sp with
          | none => rfl
          | some s =>
            simp [Addr.add, World.cell?] at h00
            split at h00 <;> simp at h00
        · obtain ⟨cs0, h3, _⟩ := hat 0 (by omega)
          obtain ⟨_, hl0, hc0⟩ := World.cells?_some h3
          have h00 := hc0 0 (by omega)
          obtain ⟨u0, hu0⟩ : ∃ u, cs0[0]? = some u := ⟨_, List.getElem?_eq_getElem (by omega)⟩
          rw [hu0] at h00
          cases sp with
          | none => rfl
          | some s =>
            simp [Addr.add, World.cell?] at h00
            split at h00 <;> simp at h00
      subst hsp
      obtain ⟨it, hit⟩ := item_cells (b := b) (p := o + i * 4) (cs := cs') (fun j hj => by
        have := hcell j hj
        rw [add_add, addr_add, ← Nat.add_assoc] at this
        exact this) h2
      exact ⟨(it, b, o), rfl, hbw, hit⟩
    have : Inhabited It := ⟨⟨0, 0, 0, ByteArray.empty⟩⟩
    obtain ⟨q, hq⟩ := choose_lt (α := It × Nat × Nat) each
    refine ⟨(List.range len).map fun i => (q i).1, some x, cap, by simp, by simpa using hl, by simpa using hlen, fun i y hy => ?_⟩
    have hi : i < len := by have := (List.getElem?_eq_some_iff.1 hy).1; simpa using this
    rw [List.getElem?_map, List.getElem?_range hi] at hy
    simp at hy
    subst hy
    obtain ⟨h1, h2, h3⟩ := hq i hi
    exact ⟨(q i).2.1, (q i).2.2, by rw [← h1], h2, h3⟩

end Go.Proofs.Ytfalaopljodmnaa
