/- codec.Unseal of too few bytes; linnetlaw3.awake. -/
import Derived.Test.YtfalaopljodmnaaRef
import Derived.Deep.QuietTactic
import Derived.Lib.SlBytesConst
namespace Go.Proofs.Ytfalaopljodmnaa
open Go.RowKit

theorem unseal_short (v : Value) (l : List UInt8) (w : World) (hr : Rd w v l) (h : l.length < 32) :
    Calls Try.prog 57 #[v] w fun e w' => e = .returned (.tuple #[.slice none 0 0, .int .i64 2]) ∧ Fr F0 w w' := by
  obtain ⟨ao, c, rfl, hlc⟩ := hr.form
  have hd : decide ((l.length : Int) - 32 < 0) = true := by simp; omega
  clear hr
  go_enter Try.func57, Try.ntmps57
  go_wp2_with fail
  go_quiet (fail)
  go_wp2_with fail
  go_ret2
  exact ⟨rfl, Fr.drewN (Fr.refl _ _) _⟩

/-- 'awake' answers true, and changes nothing. -/
def Yes (w : World) (e : Ending) (w' : World) : Prop := e = .returned (.bool true) ∧ Fr F0 w w'

set_option maxRecDepth 100000 in
set_option maxHeartbeats 1600000 in
theorem awake3_c (w : World) : Calls Try.prog 16 #[] w (Yes w) := by
  have kc := fun (w : World) (C : Array Value) (n c : Nat) => Lib.run_convert_bytes_const (P := Try.prog) w 25 5 C n c Try.underlying25 Try.underlying5
  go_enter Try.func16, Try.ntmps16
  go_wp2_with fail
  have W0 : Wr (w.alloc (.cells #[Value.slice none 0 0, Value.bool false] 48)) w.heap.size (.slice none 0 0) [] false := ⟨heap_alloc_last _ _, Ob.nil _ _, by simp [Value.ownBlock]⟩
  refine (wnum_ok _ _ _ _ 258 _ W0 (by omega) (by omega) (by simp)).mono ?_
  rintro e w1 ⟨rfl, v1, t1⟩
  have F1 : Hid (Fr F0 w w1) := hid (((Fr.refl F0 w).alloc _).trans t1.fr (fun i hi e => by rcases e with e | e; omega; simp [Value.ownBlock] at e))
  have T1 := hid t1.wr
  clear t1 W0
  go_wp2_with fail
  refine (wdone_ok _ _ _ _ T1.out (by simp [leB_length])).mono ?_
  rintro e w2 ⟨v2, rfl, h1, h2, h3⟩
  have F2 := hid (F1.out.trans h2 (fun _ _ e => e))
  have R2 : Hid (Rd w2 v2 [2, 1, 0, 0]) := hid h1.rd
  clear h1 h2 h3 T1
  go_wp2_with fail
  refine (rnew_c _ [2, 1, 0, 0, 9] _ ?d1 (by simp)).mono ?_
  case d1 => exact (Ob.lit (w := w2) (e := 5) [2, 1, 0, 0, 9] (cs := #[.int .u8 2, .int .u8 1, .int .u8 0, .int .u8 0, .int .u8 9]) rfl (by simp)).rd
  rintro e w3 ⟨rb, rv, rfl, r1, r2, r3⟩
  have F3 : Hid (Fr F0 w w3) := hid ((F2.out.alloc _).trans r3 (fun _ _ e => e))
  have R3 : Hid (Rd w3 v2 [2, 1, 0, 0]) := hid (R2.out.keep0 (((Fr.refl F0 w2).alloc _).trans r3 (fun _ _ e => e)))
  have hrb := r2
  have RR := hid r1
  have HB : Hid (w.heap.size ≤ rb) := hid (by have := F2.out.size; simp at r2; omega)
  clear r1 r2 r3 hrb
  go_wp2_with fail
  refine (unseal_short _ [120] _ ?d2 (by simp)).mono ?_
  case d2 =>
    refine ⟨rfl, _, 1, rfl, by simp, by simp [maxLen], (fun h => by cases h), fun _ => ⟨w3.heap.size, 0, rfl, by simp, fun j hj => ?_⟩⟩
    obtain rfl : j = 0 := by simpa using hj
    rw [cell_at (heap_alloc_last _ _)]; rfl
  rintro e w4 ⟨rfl, f4⟩
  have f34 : Fr F0 w3 w4 := ((Fr.refl F0 w3).alloc _).trans f4 (fun _ _ e => e)
  have F4 : Hid (Fr F0 w w4) := hid (F3.out.trans f34 (fun _ _ e => e))
  have RR4 := hid (RR.out.keep0 f34)
  obtain ⟨b, o, c, rfl, hlc, hcell⟩ := (R3.out.keep0 f34).open (by simp)
  have c0 := hcell 0 2 rfl
  have c1 := hcell 1 1 rfl
  rw [Nat.add_zero] at c0
  have hz : ([2, 1, 0, 0] : List UInt8).length = 4 := rfl
  rw [hz] at hlc ⊢
  clear f4 f34 hcell hz
  go_wp2_with fail
  refine (rnum_c rb rv _ 0 _ RR4.out (by simp)).mono ?_
  rintro e w5 ⟨rfl, ⟨v5, r5⟩, f5⟩
  have hn1 : rnum [2, 1, 0, 0, 9] 0 = (258, [9], 0) := by decide
  rw [hn1] at r5 ⊢
  have F5 : Hid (Fr F0 w w5) := hid (F4.out.trans f5 (fun i hi e => by have := HB.out; omega))
  have R5 := hid r5
  clear f5 r5 hn1 c0 c1
  go_wp2_with fail
  refine (rleft_c rb v5 _ 0 _ R5.out).mono ?_
  rintro e w6 ⟨rfl, rfl⟩
  go_wp2_with fail
  refine (rnum_c rb v5 _ 0 _ R5.out (by simp)).mono ?_
  rintro e w6 ⟨rfl, ⟨v6, r6⟩, f6⟩
  have hn1 : rnum [9] 0 = (0, [9], 2) := by decide
  rw [hn1] at r6 ⊢
  have F6 : Hid (Fr F0 w w6) := hid (F5.out.trans f6 (fun i hi e => by have := HB.out; omega))
  have R6 := hid r6
  clear f6 r6 hn1
  go_wp2_with fail
  refine (rerr_c rb v6 _ 2 _ R6.out).mono ?_
  rintro e w7 ⟨rfl, rfl⟩
  go_wp2_with fail
  refine (rleft_c rb v6 _ 2 _ R6.out).mono ?_
  rintro e w7 ⟨rfl, rfl⟩
  go_wp2_with fail
  go_ret
  exact ⟨rfl, F6.out⟩

end Go.Proofs.Ytfalaopljodmnaa
