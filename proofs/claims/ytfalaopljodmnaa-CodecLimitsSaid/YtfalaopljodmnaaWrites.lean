/- linnetlaw3.CodecWrites: the walk. -/
import Derived.Test.YtfalaopljodmnaaLaw3b
import Derived.Test.YtfalaopljodmnaaAwake3
namespace Go.Proofs.Ytfalaopljodmnaa
open Go.RowKit

theorem F0.trans {a b c : World} (h : Fr F0 a b) (k : Fr F0 b c) : Fr F0 a c := Fr.trans h k (fun _ _ e => e)

theorem Yes.after {w w1 w' : World} {e : Ending} (h : Yes w1 e w') (f : Fr F0 w w1) : Yes w e w' := ⟨h.1, F0.trans f h.2⟩

set_option maxRecDepth 100000 in
set_option maxHeartbeats 1600000 in
theorem writes_c (v : Value) (l : List It) (w : World) (hr : Its w v l) : Calls Try.prog 3 #[v] w (Yes w) := by
  have HI := hid hr
  obtain ⟨ao, c, rfl, hlc, hc2, _⟩ := hr.form
  clear hr
  by_cases hw : wsum l ≤ 1000
  · have HW := hid hw
    have hwd : decide (wsum l ≤ 1000) = true := by simp [hw]
    have HWD := hid hwd
    clear hw hwd
    go_enter Try.func3, Try.ntmps3
    go_wp2_with fail
    refine (small_c _ l _ HI.out).mono ?_
    rintro e w1 ⟨rfl, f1⟩
    rw [HWD.out]
    have I1 := hid (HI.out.keep0 f1)
    have F1 := hid f1
    clear f1
    go_wp2_with fail
    refine (written_c _ l _ I1.out HW.out).mono ?_
    rintro e w2 ⟨v2, rfl, r2, f2⟩
    have I2 := hid (I1.out.keep0 f2)
    have F2 := hid (F0.trans F1.out f2)
    have R2 := hid r2
    clear f2 r2
    generalize hok : l.all okIt = ok at *
    have HOK := hid hok
    clear hok
    go_wp2_with fail
    refine (made_c _ l _ I2.out HW.out).mono ?_
    rintro e w3 ⟨v3, rfl, r3, f3⟩
    rw [HOK.out] at r3 ⊢
    have R3 := hid r3
    have R4 := hid (R2.out.keep0 f3)
    have F3 := hid (F0.trans F2.out f3)
    generalize (if ok = true then encs l else []) = m at *
    clear r3 f3 R2 I2 I1
    go_wp2_with fail
    refine (wdone_nil _).mono ?_
    rintro e w4 ⟨rfl, rfl⟩
    go_wp2_with (first | (refine wpList_strB rfl (.tmp 33) 25 9 rfl 5 Try.underlying25 Try.underlying5 str_ty v2 m rfl R4.out ?_) | (refine wpList_strB rfl (.tmp 35) 25 9 rfl 5 Try.underlying25 Try.underlying5 str_ty v3 m rfl R3.out ?_))
    refine (wnum_nil 1 _).mono ?_
    rintro e w4 ⟨rfl, rfl⟩
    go_wp2_with fail
    refine (awake3_c _).mono ?_
    rintro e w5 ⟨rfl, f5⟩
    have F5 := hid (F0.trans F3.out f5)
    clear f5
    go_wp2_with fail
    go_ret
    exact ⟨rfl, F5.out⟩
  · have hwd : decide (wsum l ≤ 1000) = false := by simp; omega
    have HWD := hid hwd
    clear hw hwd
    go_enter Try.func3, Try.ntmps3
    go_wp2_with fail
    refine (small_c _ l _ HI.out).mono ?_
    rintro e w1 ⟨rfl, f1⟩
    rw [HWD.out]
    have F1 := hid f1
    clear f1
    go_wp2_with fail
    refine (awake3_c _).mono ?_
    rintro e w2 ⟨rfl, f2⟩
    have F2 := hid (F0.trans F1.out f2)
    clear f2
    go_wp2_with fail
    go_ret
    exact ⟨rfl, F2.out⟩

end Go.Proofs.Ytfalaopljodmnaa
