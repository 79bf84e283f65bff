/- session: New, Send, and what is told of a Session. -/
import Derived.Test.YtfalaopljodmnaaSesC
namespace Go.Proofs.Ytfalaopljodmnaa
open Go.RowKit Go.Maps

/-- A new session. -/
def fresh (epoch wait : Int) : St := ⟨epoch, wait, 1, [], 0, 0, [], false⟩

theorem EM.made (w : World) : EM (w.alloc (.map #[] 0)) w.heap.size [] 0 :=
  ⟨_, 0, World.ownsMap_made w _ _ _, ⟨Nat.le_refl _, Nat.le_refl _⟩, fun _ _ => rfl⟩

/-- A session that lies in new blocks. -/
def SeNew (w : World) (sb : Nat) (rv : Value) (mb : Nat) : Prop := ∀ k, SeM sb rv mb k → w.heap.size ≤ k

set_option maxRecDepth 100000 in
set_option maxHeartbeats 800000 in
theorem new_c (epoch wait : Int) (w : World) (h1 : 1 ≤ epoch) (h2 : epoch ≤ 2147483647) (h3 : 1 ≤ wait) (h4 : wait ≤ 1000) :
    Calls Try.prog 49 #[.int .i64 epoch, .int .i64 wait] w fun e w' => ∃ sb mb, e = .returned (.tuple #[.pointer (some ⟨sb, 0, none⟩), .int .i64 0]) ∧ Se w' sb (fresh epoch wait) (.slice none 0 0) [] mb 0 ∧ Fr F0 w w' ∧ SeNew w sb (.slice none 0 0) mb := by
  have hm : mayB epoch = true := by simp [mayB, h1, h2]
  have hmk := fun w : World => run_makeMap (P := Try.prog) 114 w
  go_enter Try.func49, Try.ntmps49
  go_wp2_with fail
  refine (may_c epoch _).mono ?_
  rintro e w1 ⟨rfl, rfl⟩
  rw [hm]
  go_wp2_with fail
  go_ret2
  refine ⟨_, _, rfl, ⟨heap_alloc_two w _ _, rfl, Own.nil _ _ _, fun i v m hi => by simp [fresh] at hi, ?_, by simp [Value.ownBlock]⟩, ((Fr.refl _ _).alloc _).alloc _, ?_⟩
  · exact (EM.made w).keep ((Fr.refl F0 _).alloc _) (fun e => e) (NB.F0 _)
  · intro k hk
    rcases hk with rfl | hk | rfl
    · simp
    · simp [Value.ownBlock] at hk
    · exact Nat.le_refl _

theorem new_no (epoch wait : Int) (w : World) (h : ¬ (1 ≤ epoch ∧ epoch ≤ 2147483647 ∧ 1 ≤ wait ∧ wait ≤ 1000)) :
    Calls Try.prog 49 #[.int .i64 epoch, .int .i64 wait] w fun e w' => e = .returned (.tuple #[.pointer none, .int .i64 1]) ∧ w = w' := by
  by_cases hm : mayB epoch = true
  · by_cases h3 : wait < 1
    · go_enter Try.func49, Try.ntmps49
      go_wp2_with fail
      refine (may_c epoch _).mono ?_
      rintro e w1 ⟨rfl, rfl⟩
      rw [hm]
      go_wp2_with fail
      go_ret2
      exact ⟨rfl, rfl⟩
    · have h4 : 1000 < wait := by unfold mayB at hm; simp at hm; omega
      go_enter Try.func49, Try.ntmps49
      go_wp2_with fail
      refine (may_c epoch _).mono ?_
      rintro e w1 ⟨rfl, rfl⟩
      rw [hm]
      go_wp2_with fail
      go_ret2
      exact ⟨rfl, rfl⟩
  · have hm : mayB epoch = false := by simpa using hm
    go_enter Try.func49, Try.ntmps49
    go_wp2_with fail
    refine (may_c epoch _).mono ?_
    rintro e w1 ⟨rfl, rfl⟩
    rw [hm]
    go_wp2_with fail
    go_ret2
    exact ⟨rfl, rfl⟩

end Go.Proofs.Ytfalaopljodmnaa
