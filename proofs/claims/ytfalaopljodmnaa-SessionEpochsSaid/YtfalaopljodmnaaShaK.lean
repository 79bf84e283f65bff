/- SHA-256: the constants; whole arrays handed back. -/
import Derived.Test.YtfalaopljodmnaaShaP
namespace Go.Proofs.Ytfalaopljodmnaa
open Go.RowKit

/-- FIPS 180-4's constants. -/
def kL : List Int := [1116352408, 1899447441, 3049323471, 3921009573, 961987163, 1508970993, 2453635748, 2870763221, 3624381080, 310598401, 607225278, 1426881987, 1925078388, 2162078206, 2614888103, 3248222580, 3835390401, 4022224774, 264347078, 604807628, 770255983, 1249150122, 1555081692, 1996064986, 2554220882, 2821834349, 2952996808, 3210313671, 3336571891, 3584528711, 113926993, 338241895, 666307205, 773529912, 1294757372, 1396182291, 1695183700, 1986661051, 2177026350, 2456956037, 2730485921, 2820302411, 3259730800, 3345764771, 3516065817, 3600352804, 4094571909, 275423344, 430227734, 506948616, 659060556, 883997877, 958139571, 1322822218, 1537002063, 1747873779, 1955562222, 2024104815, 2227730452, 2361852424, 2428436474, 2756734187, 3204031479, 3329325298]
def kArr : Array Value := #[.int .u32 1116352408, .int .u32 1899447441, .int .u32 3049323471, .int .u32 3921009573, .int .u32 961987163, .int .u32 1508970993, .int .u32 2453635748, .int .u32 2870763221, .int .u32 3624381080, .int .u32 310598401, .int .u32 607225278, .int .u32 1426881987, .int .u32 1925078388, .int .u32 2162078206, .int .u32 2614888103, .int .u32 3248222580, .int .u32 3835390401, .int .u32 4022224774, .int .u32 264347078, .int .u32 604807628, .int .u32 770255983, .int .u32 1249150122, .int .u32 1555081692, .int .u32 1996064986, .int .u32 2554220882, .int .u32 2821834349, .int .u32 2952996808, .int .u32 3210313671, .int .u32 3336571891, .int .u32 3584528711, .int .u32 113926993, .int .u32 338241895, .int .u32 666307205, .int .u32 773529912, .int .u32 1294757372, .int .u32 1396182291, .int .u32 1695183700, .int .u32 1986661051, .int .u32 2177026350, .int .u32 2456956037, .int .u32 2730485921, .int .u32 2820302411, .int .u32 3259730800, .int .u32 3345764771, .int .u32 3516065817, .int .u32 3600352804, .int .u32 4094571909, .int .u32 275423344, .int .u32 430227734, .int .u32 506948616, .int .u32 659060556, .int .u32 883997877, .int .u32 958139571, .int .u32 1322822218, .int .u32 1537002063, .int .u32 1747873779, .int .u32 1955562222, .int .u32 2024104815, .int .u32 2227730452, .int .u32 2361852424, .int .u32 2428436474, .int .u32 2756734187, .int .u32 3204031479, .int .u32 3329325298]

/-- A state: eight words. -/
structure S8 where
  a : Int
  b : Int
  c : Int
  d : Int
  e : Int
  f : Int
  g : Int
  h : Int

def S8.arr (s : S8) : Array Value := #[.int .u32 s.a, .int .u32 s.b, .int .u32 s.c, .int .u32 s.d, .int .u32 s.e, .int .u32 s.f, .int .u32 s.g, .int .u32 s.h]
def S8.ok (s : S8) : Prop := W32 s.a ∧ W32 s.b ∧ W32 s.c ∧ W32 s.d ∧ W32 s.e ∧ W32 s.f ∧ W32 s.g ∧ W32 s.h
def iv : S8 := ⟨1779033703, 3144134277, 1013904242, 2773480762, 1359893119, 2600822924, 528734635, 1541459225⟩

theorem kArr_get (i : Nat) (h : i < 64) : kArr[i]? = some (.int .u32 (kL.getD i 0)) := by
  have e : kArr = (kL.map (Value.int .u32)).toArray := rfl
  have hl : kL.length = 64 := rfl
  rw [e, List.getElem?_toArray, List.getElem?_map, List.getD_eq_getElem?_getD, List.getElem?_eq_getElem (by omega)]
  rfl

theorem kL_w (i : Nat) : W32 (kL.getD i 0) := by
  have h : ∀ x ∈ kL, W32 x := by
    have : (kL.all fun x => decide (0 ≤ x) && decide (x < 4294967296)) = true := by decide
    intro x hx
    have := List.all_eq_true.1 this x hx
    simpa [W32] using this
  rw [List.getD_eq_getElem?_getD]
  cases hi : kL[i]? with
  | none => exact ⟨by simp, by simp⟩
  | some x => exact h x (List.mem_of_getElem? hi)

theorem info64 : (Try.prog.info? 129).map (·.size) = some kArr.size := by kernel_rfl

set_option maxRecDepth 100000 in
set_option maxHeartbeats 3200000 in
theorem constants_c (w : World) : Calls Try.prog 88 #[] w fun e w' => e = .returned (.agg kArr) ∧ Fr F0 w w' := by
  go_enter Try.func88, Try.ntmps88
  go_wp2_with (refine wpList_storeRow rfl 129 (.tmp 0) (.tmp 1) rfl w.heap.size _ kArr 129 (heap_alloc_last _ _) rfl rfl rfl info64 (by kernel_rfl) ?_)
  intro w2 hg2 hf2
  have HG := hid hg2
  have HF := hid (((Fr.refl F0 w).alloc _).trans hf2 (fun i hi e => by omega))
  clear hg2 hf2
  go_wp2_with fail
  exact bodyPost_ret (v := .agg kArr) (results_cell_row Try.results88 _ _ w.heap.size 129 kArr (0, 0) _ rfl HG.out Try.underlying129 rfl info64) rfl ⟨rfl, HF.out⟩

end Go.Proofs.Ytfalaopljodmnaa
