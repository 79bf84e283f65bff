/- SHA-256, the reference's: the constants. -/
import Derived.Test.YtfalaopljodmnaaHash4
namespace Go.Proofs.Ytfalaopljodmnaa
open Go.RowKit

set_option maxRecDepth 100000 in
set_option maxHeartbeats 3200000 in
theorem rounds_c (w : World) : Calls Try.prog 79 #[] w fun e w' => e = .returned (.agg kArr) ∧ Fr F0 w w' := by
  go_enter Try.func79, Try.ntmps79
  go_wp2_with (refine wpList_storeRow rfl 129 (.tmp 0) (.tmp 1) rfl w.heap.size _ kArr 129 (heap_alloc_last _ _) rfl rfl rfl info64 (by kernel_rfl) ?_)
  intro w2 hg2 hf2
  have HG := hid hg2
  have HF := hid (((Fr.refl F0 w).alloc _).trans hf2 (fun i hi e => by omega))
  clear hg2 hf2
  go_wp2_with fail
  exact bodyPost_ret (v := .agg kArr) (results_cell_row Try.results79 _ _ w.heap.size 129 kArr (0, 0) _ rfl HG.out Try.underlying129 rfl info64) rfl ⟨rfl, HF.out⟩

end Go.Proofs.Ytfalaopljodmnaa
