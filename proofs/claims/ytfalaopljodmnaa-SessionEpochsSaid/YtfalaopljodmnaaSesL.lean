/- session: nil receivers, what is refused, what is told, Reset. -/
import Derived.Test.YtfalaopljodmnaaSesJ
namespace Go.Proofs.Ytfalaopljodmnaa
open Go.RowKit Go.Maps

set_option maxRecDepth 100000 in
set_option maxHeartbeats 1600000 in
theorem in_nil (v : Value) (l : List UInt8) (now : Int) (w : World) (hr : Rd w v l) (hl : l.length ≤ 35184372088832) :
    Calls Try.prog 51 #[.pointer none, v, .int .i64 now] w fun e w' => e = .returned (.tuple #[.slice none 0 0, .int .i64 (if (rdF l).isSome then 4 else 2)]) ∧ Fr F0 w w' := by
  cases ho : rdF l with
  | none => exact in_none none v l now w hr hl ho
  | some F =>
    have HR := hid hr
    have HL := hid hl
    have HO := hid ho
    clear hr hl ho
    go_enter Try.func51, Try.ntmps51
    go_wp2_with fail
    refine (read_some v l F _ HR.out HL.out HO.out).mono ?_
    rintro e w1 ⟨u, rfl, h1, f1⟩
    obtain ⟨ua, uc, rfl⟩ := h1.form
    have F1 := hid f1
    clear h1 f1
    go_wp2_with fail
    go_ret2
    exact ⟨rfl, F1.out.alloc _⟩

set_option maxRecDepth 100000 in
theorem send_big (p : Option Addr) (x : Value) (b : List UInt8) (w : World) (hr : Rd w x b) (hb : 40000 < b.length) :
    Calls Try.prog 44 #[.pointer p, x] w fun e w' => e = .returned (.int .i64 3) ∧ w = w' := by
  obtain ⟨xa, xc, rfl, _⟩ := hr.form
  obtain ⟨nb, HNB⟩ : ∃ n, Hid (b.length = n) := ⟨_, hid rfl⟩
  rw [HNB.out] at hb ⊢
  have hb' : 40000 < (nb : Int) := by omega
  clear hr hb
  go_enter Try.func44, Try.ntmps44
  go_wp2_with fail
  go_ret
  exact ⟨rfl, rfl⟩

set_option maxRecDepth 100000 in
theorem send_nil (x : Value) (b : List UInt8) (w : World) (hr : Rd w x b) (hb : b.length ≤ 40000) :
    Calls Try.prog 44 #[.pointer none, x] w fun e w' => e = .returned (.int .i64 4) ∧ w = w' := by
  obtain ⟨xa, xc, rfl, _⟩ := hr.form
  obtain ⟨nb, HNB⟩ : ∃ n, Hid (b.length = n) := ⟨_, hid rfl⟩
  rw [HNB.out] at hb ⊢
  have hb' : (nb : Int) ≤ 40000 := by omega
  clear hr hb
  go_enter Try.func44, Try.ntmps44
  go_wp2_with fail
  go_ret
  exact ⟨rfl, rfl⟩

set_option maxRecDepth 100000 in
theorem out_nil (now : Int) (w : World) : Calls Try.prog 53 #[.pointer none, .int .i64 now] w fun e w' => e = .returned (.slice none 0 0) ∧ w = w' := by
  go_enter Try.func53, Try.ntmps53
  go_wp2_with fail
  go_step3
  go_wp2_with fail
  try rw [Exit.noGoto_ret]
  go_ret
  exact ⟨rfl, rfl⟩

theorem waiting_nil (w : World) : Calls Try.prog 48 #[.pointer none] w fun e w' => e = .returned (.int .i64 0) ∧ w = w' := by
  go_enter Try.func48, Try.ntmps48
  go_wp2_with fail
  go_ret
  exact ⟨rfl, rfl⟩

theorem epoch_nil (w : World) : Calls Try.prog 54 #[.pointer none] w fun e w' => e = .returned (.int .i64 0) ∧ w = w' := by
  go_enter Try.func54, Try.ntmps54
  go_wp2_with fail
  go_ret
  exact ⟨rfl, rfl⟩

theorem peer_nil (w : World) : Calls Try.prog 55 #[.pointer none] w fun e w' => e = .returned (.int .i64 0) ∧ w = w' := by
  go_enter Try.func55, Try.ntmps55
  go_wp2_with fail
  go_ret
  exact ⟨rfl, rfl⟩

theorem waiting_c {sb : Nat} {S : St} {rv : Value} {vs : List Value} {mb N : Nat} (w : World) (h : Se w sb S rv vs mb N) : Calls Try.prog 48 #[.pointer (some ⟨sb, 0, none⟩)] w fun e w' => e = .returned (.int .i64 (S.l.length : Int)) ∧ w = w' := by
  obtain ⟨ao, c, rfl⟩ := h.form
  have c3 := h.c3
  clear h
  go_enter Try.func48, Try.ntmps48
  go_wp2_with fail
  go_ret
  exact ⟨rfl, rfl⟩

theorem epoch_c {sb : Nat} {S : St} {rv : Value} {vs : List Value} {mb N : Nat} (w : World) (h : Se w sb S rv vs mb N) : Calls Try.prog 54 #[.pointer (some ⟨sb, 0, none⟩)] w fun e w' => e = .returned (.int .i64 S.epoch) ∧ w = w' := by
  have c3 : w.cell? ⟨sb, 0, none⟩ = some (.int .i64 S.epoch) := by rw [cell_at h.blk]; rfl
  clear h
  go_enter Try.func54, Try.ntmps54
  go_wp2_with fail
  go_ret
  exact ⟨rfl, rfl⟩

theorem peer_c {sb : Nat} {S : St} {rv : Value} {vs : List Value} {mb N : Nat} (w : World) (h : Se w sb S rv vs mb N) : Calls Try.prog 55 #[.pointer (some ⟨sb, 0, none⟩)] w fun e w' => e = .returned (.int .i64 S.peer) ∧ w = w' := by
  have c3 : w.cell? ⟨sb, 4, none⟩ = some (.int .i64 S.peer) := by rw [cell_at h.blk]; rfl
  clear h
  go_enter Try.func55, Try.ntmps55
  go_wp2_with fail
  go_ret
  exact ⟨rfl, rfl⟩

end Go.Proofs.Ytfalaopljodmnaa
