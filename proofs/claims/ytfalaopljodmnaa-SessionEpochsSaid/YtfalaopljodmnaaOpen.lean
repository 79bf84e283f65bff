/- Slices of bytes and of ints among the arguments: opened. -/
import Derived.Test.YtfalaopljodmnaaRef
import Derived.Deep.Slices
import Derived.SizedLaws
import Derived.ProofKit
import Derived.OpenShut
import Derived.ChangeOld
namespace Go.Proofs.Ytfalaopljodmnaa
open Go.ChangeShapes Go.WideShapes Go.ChangeAt Go.RowKit Go.Deep

/-- An address at which something can be read is a plain one. -/
theorem plain_addr {w : World} {x : Addr} {v : Value} (h : w.cell? (x.add 0) = some v) : x = ⟨x.block, x.off, none⟩ ∧ x.block < w.heap.size := by
  obtain ⟨b, o, sp⟩ := x
  have hb := World.block_lt_of_cell? w _ h
  cases sp with
  | none => exact ⟨rfl, hb⟩
  | some s =>
    simp [Addr.add, World.cell?] at h
    split at h <;> simp at h

theorem open_nums {H : Type} {enc : TypeId × Value → H} {P : Program} {w : World} {base : Nat} {spare : Nat → Bool} {held : Bool} {t e : TypeId} {k : IntKind} {a : Option Addr} {len cap : Nat} {d : DataW H} {ps : List MemPlace} {ts : List TypeId} {ds : List (DataW H)} {j : Nat}
    (ht : P.underlying t = some (.slice e)) (he : P.underlying e = some (.int k)) (hc : P.cellsOf e = 1) {B : Nat} (hB : P.bytesOf e = B) (hp : 0 < B) (hsz : (DataW.weightsEach P ts ds).all (· ≤ reachBytes) = true) (hj : ts[j]? = some t) (hd : ds[j]? = some d)
    (h : DataW.Trod enc P w base spare held t (.slice a len cap) d ps) : ∃ l : List Int, l.length = len ∧ len ≤ 140737488351232 ∧ (∀ n ∈ l, (Lit.int k n).wf = true) ∧ Rg w 1 (.slice a len cap) l.length (l.map (Value.int k)) := by
  obtain ⟨fuel, hf⟩ := h
  rcases open_ints ht he hc hf with ⟨hcs, _⟩ | ⟨x, len', cap', zs, hcs, _, hl, hm, hz, hx, hcell, hwz⟩
  · simp [Value.cells] at hcs
    obtain ⟨rfl, rfl, rfl⟩ := hcs
    exact ⟨[], rfl, by omega, by simp, Rg.nil w 1⟩
  · simp [Value.cells] at hcs
    obtain ⟨rfl, rfl, rfl⟩ := hcs
    have hle : len ≤ zs.length := by rw [hz]; split <;> omega
    have hlen : (zs.take len).length = len := by rw [List.length_take]; omega
    obtain ⟨hx, _⟩ := Prod.mk.inj hx
    have z := sized_slice hsz hj (by rw [hd, hx]) ht
    rw [hB] at z
    have h1 : len ≤ 140737488351232 := by
      have : ((lits (H := H) k (zs.take len)).length + (lits (H := H) k (zs.drop len)).length) = zs.length := by simp [lits]; omega
      rw [this] at z
      have h2 : len * 1 ≤ zs.length * B := Nat.mul_le_mul hle hp
      have h3 : reachBytes = 140737488351232 := rfl
      omega
    refine ⟨zs.take len, hlen, h1, fun n hn => hwz n (List.mem_of_mem_take hn), ?_⟩
    rw [hlen]
    refine ⟨by rw [List.length_map, hlen, Nat.mul_one], some x, cap, rfl, hl, hm, (fun h => by cases h), fun hp0 => ?_⟩
    have h0 := hcell 0 (by omega)
    obtain ⟨p1, p2⟩ := plain_addr h0
    refine ⟨x.block, x.off, by rw [← p1], p2, fun i hi => ?_⟩
    have hi' : i < len := by rw [List.length_map, hlen] at hi; exact hi
    have hci := hcell i (by omega)
    rw [p1, addr_add] at hci
    rw [hci]
    have : i < zs.length := by omega
    simp [List.getD, this]

theorem wf_u8 {n : Int} (h : (Lit.int .u8 n).wf = true) : 0 ≤ n ∧ n < 256 := by
  simp [Lit.wf, IntKind.min, IntKind.max, IntKind.signed, IntKind.bits] at h; omega

/-- A []byte. -/
theorem open_bytes {H : Type} {enc : TypeId × Value → H} {w : World} {base : Nat} {spare : Nat → Bool} {held : Bool} {a : Option Addr} {len cap : Nat} {d : DataW H} {ps : List MemPlace} {ts : List TypeId} {ds : List (DataW H)} {j : Nat}
    (hsz : (DataW.weightsEach Try.prog ts ds).all (· ≤ reachBytes) = true) (hj : ts[j]? = some 25) (hd : ds[j]? = some d) (h : DataW.Trod enc Try.prog w base spare held 25 (.slice a len cap) d ps) :
    ∃ l : List UInt8, l.length = len ∧ len ≤ 140737488351232 ∧ Rd w (.slice a len cap) l := by
  obtain ⟨l, h1, h2, h3, h4⟩ := open_nums Try.underlying25 Try.underlying5 (by kernel_rfl) (B := 1) (by kernel_rfl) (by omega) hsz hj hd h
  refine ⟨l.map fun n => UInt8.ofNat n.toNat, by simpa using h1, h2, ?_⟩
  unfold Rd
  have : (l.map fun n => UInt8.ofNat n.toNat).map b8 = l.map (Value.int .u8) := by
    rw [List.map_map]
    refine List.map_congr_left fun n hn => ?_
    obtain ⟨h5, h6⟩ := wf_u8 (h3 n hn)
    simp [b8]
    omega
  rw [this, List.length_map]
  exact h4

/-- A []int. -/
theorem open_intl {H : Type} {enc : TypeId × Value → H} {w : World} {base : Nat} {spare : Nat → Bool} {held : Bool} {a : Option Addr} {len cap : Nat} {d : DataW H} {ps : List MemPlace} {ts : List TypeId} {ds : List (DataW H)} {j : Nat}
    (hsz : (DataW.weightsEach Try.prog ts ds).all (· ≤ reachBytes) = true) (hj : ts[j]? = some 31) (hd : ds[j]? = some d) (h : DataW.Trod enc Try.prog w base spare held 31 (.slice a len cap) d ps) :
    ∃ l : List Int, l.length = len ∧ len ≤ 140737488351232 ∧ Ri w (.slice a len cap) l := by
  obtain ⟨l, h1, h2, _, h4⟩ := open_nums Try.underlying31 Try.underlying3 (by kernel_rfl) (B := 8) (by kernel_rfl) (by omega) hsz hj hd h
  exact ⟨l, h1, h2, h4⟩

end Go.Proofs.Ytfalaopljodmnaa
