/- session: Peek, New. -/
import Derived.Test.YtfalaopljodmnaaSesA
namespace Go.Proofs.Ytfalaopljodmnaa
open Go.RowKit

/-- What Peek tells. -/
def PeekTo (w : World) (o : Option Flds) (e : Ending) (w' : World) : Prop :=
  (match o with
   | some F => e = .returned (.tuple #[.int .i64 (F.epoch : Int), .int .i64 (F.seq : Int), .int .i64 (F.ack : Int), .bool (decide (0 < F.seq)), .int .i64 0])
   | none => e = .returned (.tuple #[.int .i64 0, .int .i64 0, .int .i64 0, .bool false, .int .i64 2])) ∧ Fr F0 w w'

theorem read_some (v : Value) (l : List UInt8) (F : Flds) (w : World) (hr : Rd w v l) (hl : l.length ≤ 35184372088832) (h : rdF l = some F) :
    Calls Try.prog 72 #[v] w fun e w' => ∃ u, e = .returned (.tuple #[.agg #[.int .i64 (F.epoch : Int), .int .i64 (F.known : Int), .int .i64 (F.seq : Int), .int .i64 (F.ack : Int), u], .bool true]) ∧ Rt w' u F.b ∧ Fr F0 w w' :=
  (read_c v l w hr hl).mono fun e w' k => by rw [h] at k; exact k

theorem read_none (v : Value) (l : List UInt8) (w : World) (hr : Rd w v l) (hl : l.length ≤ 35184372088832) (h : rdF l = none) :
    Calls Try.prog 72 #[v] w fun e w' => ∃ (a b c d : Int) (u : Value) (n : List UInt8), e = .returned (.tuple #[.agg #[.int .i64 a, .int .i64 b, .int .i64 c, .int .i64 d, u], .bool false]) ∧ Rd w' u n ∧ Fr F0 w w' :=
  (read_c v l w hr hl).mono fun e w' k => by rw [h] at k; exact k

set_option maxRecDepth 100000 in
set_option maxHeartbeats 1600000 in
theorem peek_c (v : Value) (l : List UInt8) (w : World) (hr : Rd w v l) (hl : l.length ≤ 35184372088832) :
    Calls Try.prog 50 #[v] w fun e w' => PeekTo w (rdF l) e w' := by
  have HR := hid hr
  have HL := hid hl
  clear hr hl
  cases h : rdF l with
  | none =>
    have HF := hid h
    clear h
    go_enter Try.func50, Try.ntmps50
    go_wp2_with fail
    refine (read_none v l _ HR.out HL.out HF.out).mono ?_
    rintro e w1 ⟨a, b, c, d, u, n, rfl, h1, f1⟩
    obtain ⟨ua, uc, rfl, _⟩ := h1.form
    have F1 := hid f1
    clear h1 f1
    go_wp2_with fail
    exact bodyPost_ret (v := .tuple #[.int .i64 0, .int .i64 0, .int .i64 0, .bool false, .int .i64 2]) (by simp [results, Try.results50, go_sem]) rfl ⟨rfl, F1.out.alloc _⟩
  | some F =>
    have HF := hid h
    clear h
    obtain ⟨fe, fk, fs, fa, fb⟩ := F
    go_enter Try.func50, Try.ntmps50
    go_wp2_with fail
    refine (read_some v l _ _ HR.out HL.out HF.out).mono ?_
    rintro e w1 ⟨u, rfl, h1, f1⟩
    obtain ⟨ua, uc, rfl, _⟩ := h1.1.form
    dsimp only at h1 ⊢
    have F1 := hid f1
    clear h1 f1
    go_wp2_with fail
    go_quiet (fail)
    go_wp2_with fail
    exact bodyPost_ret (v := .tuple #[.int .i64 (fe : Int), .int .i64 (fs : Int), .int .i64 (fa : Int), .bool (decide (0 < fs)), .int .i64 0]) (by simp [results, Try.results50, go_sem]) rfl ⟨rfl, (F1.out.alloc _).drewN _⟩

/-- May an epoch be? -/
def mayB (n : Int) : Bool := decide (1 ≤ n ∧ n ≤ 2147483647)

theorem may_c (n : Int) (w : World) : Calls Try.prog 71 #[.int .i64 n] w fun e w' => e = .returned (.bool (mayB n)) ∧ w = w' := by
  by_cases h1 : 1 ≤ n
  · by_cases h2 : n ≤ 2147483647
    · have hd : mayB n = true := by simp [mayB, h1, h2]
      rw [hd]
      go_enter Try.func71, Try.ntmps71
      go_wp2_with fail
      go_ret
      exact ⟨rfl, rfl⟩
    · have hd : mayB n = false := by simp [mayB, h2]
      rw [hd]
      go_enter Try.func71, Try.ntmps71
      go_wp2_with fail
      go_ret
      exact ⟨ret_bool (by simp), rfl⟩
  · have hd : mayB n = false := by simp [mayB, h1]
    rw [hd]
    go_enter Try.func71, Try.ntmps71
    go_wp2_with fail
    go_ret
    exact ⟨ret_bool rfl, rfl⟩

end Go.Proofs.Ytfalaopljodmnaa
