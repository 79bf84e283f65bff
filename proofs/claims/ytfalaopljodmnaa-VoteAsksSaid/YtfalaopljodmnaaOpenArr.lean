/- An array of three slices of bytes among the arguments: opened. -/
import Derived.Test.YtfalaopljodmnaaOpen
namespace Go.Proofs.Ytfalaopljodmnaa
open Go.ChangeShapes Go.WideShapes Go.ChangeAt Go.RowKit Go.Deep

theorem open_cell {H : Type} {enc : TypeId × Value → H} {w : World} {base : Nat} {spare : Nat → Bool} {held : Bool} {fuel : Nat} {c : Value} {x : DataW H × List MemPlace}
    (hf : DataW.trod enc Try.prog w base spare held fuel 25 [c] = some x) : ∃ l : List UInt8, Rd w c l := by
  rcases open_ints Try.underlying25 Try.underlying5 (by kernel_rfl) hf with ⟨hcs, _⟩ | ⟨x, len, cap, zs, hcs, _, hl, hm, hz, hx, hcell, hwz⟩
  · cases hcs
    exact ⟨[], Rd.nil w⟩
  · cases hcs
    have hle : len ≤ zs.length := by rw [hz]; split <;> omega
    have hlen : (zs.take len).length = len := by rw [List.length_take]; omega
    have hRg : Rg w 1 (.slice (some x) len cap) (zs.take len).length ((zs.take len).map (Value.int .u8)) := by
      rw [hlen]
      refine ⟨by rw [List.length_map, hlen, Nat.mul_one], some x, cap, rfl, hl, hm, (fun h => by cases h), fun hp0 => ?_⟩
      have h0 := hcell 0 (by omega)
      obtain ⟨p1, p2⟩ := plain_addr h0
      refine ⟨x.block, x.off, by rw [← p1], p2, fun i hi => ?_⟩
      have hi' : i < len := by rw [List.length_map, hlen] at hi; exact hi
      have hci := hcell i (by omega)
      rw [p1, addr_add] at hci
      rw [hci]
      have : i < zs.length := by omega
      simp [List.getD, this]
    refine ⟨(zs.take len).map fun n => UInt8.ofNat n.toNat, ?_⟩
    unfold Rd
    have : ((zs.take len).map fun n => UInt8.ofNat n.toNat).map b8 = (zs.take len).map (Value.int .u8) := by
      rw [List.map_map]
      refine List.map_congr_left fun n hn => ?_
      obtain ⟨h5, h6⟩ := wf_u8 (hwz n (List.mem_of_mem_take hn))
      simp [b8]
      omega
    rw [this, List.length_map]
    exact hRg

theorem list3 {α : Type} {l : List α} (h : l.length = 3) : ∃ a b c, l = [a, b, c] := by
  match l, h with
  | [a, b, c], _ => exact ⟨a, b, c, rfl⟩

theorem open_arr3 {H : Type} {enc : TypeId × Value → H} {w : World} {base : Nat} {spare : Nat → Bool} {held : Bool} {cs : Array Value} {d : DataW H} {ps : List MemPlace}
    (h : DataW.Trod enc Try.prog w base spare held 53 (.agg cs) d ps) : ∃ (s0 s1 s2 : Value) (x0 x1 x2 : List UInt8), cs = #[s0, s1, s2] ∧ Rd w s0 x0 ∧ Rd w s1 x1 ∧ Rd w s2 x2 := by
  obtain ⟨fuel, hf⟩ := h
  obtain ⟨xs, k, _, _, hl, hxl, hg⟩ := DataW.trod_array Try.underlying53 hf
  have hl3 : cs.toList.length = 3 := by
    have e : (Value.agg cs).cells.toList = cs.toList := rfl
    rw [e] at hl
    have e3 : Try.prog.cellsOf 53 = 3 := by kernel_rfl
    exact hl.trans e3
  have hcells : Try.prog.cellsOf 25 = 1 := by kernel_rfl
  rw [hcells] at hg
  obtain ⟨s0, s1, s2, hs⟩ := list3 hl3
  obtain ⟨y0, y1, y2, rfl⟩ := list3 hxl
  have hcs : cs = #[s0, s1, s2] := by
    have := congrArg List.toArray hs
    simpa using this
  subst hcs
  obtain ⟨x0, r0⟩ := open_cell (c := s0) (hg 0 (by omega))
  obtain ⟨x1, r1⟩ := open_cell (c := s1) (hg 1 (by omega))
  obtain ⟨x2, r2⟩ := open_cell (c := s2) (hg 2 (by omega))
  exact ⟨s0, s1, s2, x0, x1, x2, rfl, r0, r1, r2⟩

end Go.Proofs.Ytfalaopljodmnaa
