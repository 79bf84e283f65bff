/- linnetlaw20: awake. -/
import Derived.Test.YtfalaopljodmnaaSesT
namespace Go.Proofs.Ytfalaopljodmnaa
open Go.RowKit Go.Maps

def aw1 : St := sendSt (fresh 1 3) [120]
def aw2 : St := ⟨1, 3, 1, [⟨[120], true, 0⟩], 0, 0, [], false⟩
def awB : St := ⟨5, 3, 1, [], 1, 1, [], true⟩
def awF : Flds := ⟨1, 0, 1, 0, [120]⟩
def awR : List UInt8 := frameB aw1 1 [120]

theorem aw1_ok : SOk aw1 := ⟨by simp [aw1, sendSt, fresh], by simp [aw1, sendSt, fresh], by simp [aw1, sendSt, fresh], by simp [aw1, sendSt, fresh], by simp [aw1, sendSt, fresh], by simp [aw1, sendSt, fresh], by simp [aw1, sendSt, fresh], by simp [aw1, sendSt, fresh]⟩
theorem awB_ok : SOk awB := ⟨by simp [awB], by simp [awB], by simp [awB], by simp [awB], by simp [awB], by simp [awB], by simp [awB], by simp [awB]⟩
theorem aw_out : outSt aw1 0 = (aw2, [awR]) := by rfl
theorem aw_rd : rdF awR = some awF := rdF_frame aw1_ok 1 [120] (by decide) (by decide) (by simp) (.inl (by decide))
theorem aw_in1 : inSt (fresh 5 3) awF = (awB, [[120]]) := by rfl
theorem aw_in2 : inSt awB awF = (awB, []) := by rfl

theorem in_len (S : St) (q : Int) (b : List UInt8) (h : b.length ≤ 40000) : (frameB S q b).length ≤ 35184372088832 := by rw [frameB_len]; omega

set_option maxRecDepth 100000 in
set_option maxHeartbeats 1600000 in
theorem awake20_c (w : World) : Calls Try.prog 42 #[] w (Yes w) := by
  have kc := fun (w : World) (C : Array Value) (n c : Nat) => Lib.run_convert_bytes_const (P := Try.prog) w 25 5 C n c Try.underlying25 Try.underlying5
  go_enter Try.func42, Try.ntmps42
  go_wp2_with fail
  refine (new_c 1 3 _ (by omega) (by omega) (by omega) (by omega)).mono ?_
  rintro e w1 ⟨sa, ma, rfl, s1, f1, n1⟩
  have S1 := hid (And.intro s1 (And.intro f1 n1))
  clear s1 f1 n1
  go_wp2_with fail
  refine (new_c 5 3 _ (by omega) (by omega) (by omega) (by omega)).mono ?_
  rintro e w2 ⟨sb, mb, rfl, s2, f2, n2⟩
  have T := hid (Two.made S1.out.1 S1.out.2.2 S1.out.2.1 s2 f2 n2)
  clear s2 f2 n2
  go_wp2_with fail
  refine (new_no 0 3 _ (by omega)).mono ?_
  rintro e w3 ⟨rfl, rfl⟩
  go_wp2_with fail
  refine (two_send _ [120] (T.out.keep0 ((Fr.refl _ _).alloc _)) (Rd.oneM _ 120 5 (1, 2)) (by simp) (by simp [fresh])).mono ?_
  rintro e w4 ⟨rfl, t4, _⟩
  have T4 : Hid (Two w w4 sa aw1 0 sb (fresh 5 3) 0) := hid t4
  clear t4
  go_wp2_with fail
  refine (two_out 0 T4.out aw1_ok (by omega)).mono ?_
  rintro e w5 ⟨r5, us5, rfl, b5, n5, t5, k5⟩
  rw [aw_out] at b5 t5
  dsimp only at b5 t5
  have T5 := hid t5
  obtain ⟨b, o, c, ua, uc, rfl, rfl, hrt⟩ := b5.one
  have c5 := b5.cell0
  have B5 := hid b5
  have AL := hid (show awR.length = 53 from frameB_len _ _ _)
  rw [AL.out] at B5 c5
  clear t5 k5 b5 n5 hrt T4
  go_wp2_with fail
  refine (two_waiting T5.out).mono ?_
  rintro e w6 ⟨rfl, rfl⟩
  dsimp only [aw2, List.length]
  go_wp2_with fail
  refine (two_in _ awR awF 0 T5.out.swap (fresh_ok (by omega) (by omega) (by omega) (by omega)) B5.out.rt0.1 (in_len _ _ _ (by simp)) aw_rd (by omega)).mono ?_
  rintro e w7 ⟨r7, us7, rfl, b7, n7, t7, k7⟩
  rw [aw_in1] at b7 t7
  dsimp only at b7 t7
  have T7 := hid t7
  have B5 := hid (B5.out.kept k7)
  obtain ⟨b2, o2, c2, ua2, uc2, rfl, rfl, hrt2⟩ := b7.one
  have c5 := B5.out.cell0
  have B7 := hid b7
  clear b7 n7 t7 k7 hrt2 T5
  go_wp2_with fail
  refine (two_in _ awR awF 0 T7.out awB_ok B5.out.rt0.1 (in_len _ _ _ (by simp)) aw_rd (by omega)).mono ?_
  rintro e w8 ⟨r8, us8, rfl, b8, n8, t8, k8⟩
  rw [aw_in2] at b8 t8
  dsimp only at b8 t8
  have T8 := hid t8
  have B5 := hid (B5.out.kept k8)
  have B7 := hid (B7.out.kept k8)
  obtain ⟨a8, c8, rfl⟩ := b8.form
  have c5 := B5.out.cell0
  dsimp only [List.length]
  clear b8 n8 t8 k8 T7
  go_wp2_with fail
  refine (peek_c _ awR _ B5.out.rt0.1 (in_len _ _ _ (by simp))).mono ?_
  rintro e w9 hp
  rw [aw_rd] at hp
  obtain ⟨rfl, f9⟩ := hp
  dsimp only [awF]
  have T9 := hid (T8.out.keep0 f9)
  have B7 := hid (B7.out.keep0 f9)
  have c7 := B7.out.cell0
  clear f9 T8 c5
  go_wp2_with (refine wpList_str (.tmp 98) rfl _ [120] rfl B7.out.rt0.1 rfl ?_)
  refine (two_peer T9.out).mono ?_
  rintro e w10 ⟨rfl, rfl⟩
  dsimp only [awB]
  go_wp2_with fail
  refine (two_epoch T9.out).mono ?_
  rintro e w10 ⟨rfl, rfl⟩
  dsimp only [awB]
  go_wp2_with fail
  go_ret
  exact ⟨rfl, let ⟨_, _, _, _, _, _, _, _, _, _, _, f⟩ := T9.out; f⟩

end Go.Proofs.Ytfalaopljodmnaa
