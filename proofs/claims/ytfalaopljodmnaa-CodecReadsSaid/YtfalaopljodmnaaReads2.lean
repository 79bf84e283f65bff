/- linnetlaw3.CodecReads: every input. -/
import Derived.Test.YtfalaopljodmnaaReads
namespace Go.Proofs.Ytfalaopljodmnaa
open Go.RowKit

set_option maxRecDepth 100000 in
set_option maxHeartbeats 1600000 in
theorem reads_c (bv : Value) (b0 : List UInt8) (kv : Value) (ks : List Int) (most : Int) (w : World) (hb : Rd w bv b0) (hk : Ri w kv ks) :
    Calls Try.prog 4 #[bv, kv, .int .i64 most] w (Yes w) := by
  by_cases h1 : b0.length ≤ 300 ∧ ks.length ≤ 60 ∧ 0 ≤ most ∧ most ≤ 1048576
  · exact reads_in bv kv b0 ks most w hb hk h1.1 h1.2.1 h1.2.2.1 h1.2.2.2
  · obtain ⟨bo, bc, rfl, _⟩ := hb.form
    obtain ⟨ko, kc, rfl, _⟩ := hk.form
    clear hb hk
    by_cases g1 : 300 < b0.length
    · clear h1
      go_enter Try.func4, Try.ntmps4
      go_wp2_with fail
      refine (awake3_c _).mono ?_
      rintro e w2 ⟨rfl, f2⟩
      have F2 := hid f2
      clear f2
      go_wp2_with fail
      go_ret
      exact ⟨rfl, F2.out⟩
    · by_cases g2 : 60 < ks.length
      · clear h1
        go_enter Try.func4, Try.ntmps4
        go_wp2_with fail
        refine (awake3_c _).mono ?_
        rintro e w2 ⟨rfl, f2⟩
        have F2 := hid f2
        clear f2
        go_wp2_with fail
        go_ret
        exact ⟨rfl, F2.out⟩
      · by_cases g3 : most < 0
        · clear h1
          go_enter Try.func4, Try.ntmps4
          go_wp2_with fail
          refine (awake3_c _).mono ?_
          rintro e w2 ⟨rfl, f2⟩
          have F2 := hid f2
          clear f2
          go_wp2_with fail
          go_ret
          exact ⟨rfl, F2.out⟩
        · have g4 : 1048576 < most := by omega
          clear h1
          go_enter Try.func4, Try.ntmps4
          go_wp2_with fail
          refine (awake3_c _).mono ?_
          rintro e w2 ⟨rfl, f2⟩
          have F2 := hid f2
          clear f2
          go_wp2_with fail
          go_ret
          exact ⟨rfl, F2.out⟩

end Go.Proofs.Ytfalaopljodmnaa
