/- SHA-256: the words of a block's rounds, the rounds. Plain numbers. -/
import Derived.Test.YtfalaopljodmnaaSha1
namespace Go.Proofs.Ytfalaopljodmnaa

def ad (a b : Int) : Int := (a + b) % 4294967296
def xr (a b : Int) : Int := bits .xor .u32 a b

theorem ad_w (a b : Int) : W32 (ad a b) := ⟨Int.emod_nonneg _ (by omega), Int.emod_lt_of_pos _ (by omega)⟩

/-- The next word, of those ahead of it. -/
def nextW (w16 x w7 y : Int) : Int := (w16 + xr (xr (rt 7 x) (rt 18 x)) (x / 8) + w7 + xr (xr (rt 17 y) (rt 19 y)) (y / 1024)) % 4294967296

/-- The block's own word i. -/
def ownW (l : List UInt8) (i : Nat) : Int := be4 (l.getD (4 * i) 0) (l.getD (4 * i + 1) 0) (l.getD (4 * i + 2) 0) (l.getD (4 * i + 3) 0)

/-- The first n words of a block's rounds. -/
def sched (l : List UInt8) : Nat → List Int
  | 0 => []
  | n + 1 => sched l n ++ [if n < 16 then ownW l n else nextW ((sched l n).getD (n - 16) 0) ((sched l n).getD (n - 15) 0) ((sched l n).getD (n - 7) 0) ((sched l n).getD (n - 2) 0)]

theorem sched_len (l : List UInt8) (n : Nat) : (sched l n).length = n := by
  induction n with
  | zero => rfl
  | succ n ih => simp [sched, ih]

theorem sched_w (l : List UInt8) (n : Nat) : ∀ x ∈ sched l n, W32 x := by
  induction n with
  | zero => intro x hx; simp [sched] at hx
  | succ n ih =>
    intro x hx
    rw [sched, List.mem_append] at hx
    rcases hx with hx | hx
    · exact ih x hx
    · rw [List.mem_singleton] at hx
      subst hx
      split
      · exact be4_w _ _ _ _
      · exact ad_w _ _

theorem sched_getD_w (l : List UInt8) (n j : Nat) : W32 ((sched l n).getD j 0) := by
  rw [List.getD_eq_getElem?_getD]
  cases h : (sched l n)[j]? with
  | none => exact ⟨by simp, by simp⟩
  | some x => exact sched_w l n x (List.mem_of_getElem? h)

/-- The array of 64 words behind n of them. -/
def arrW (l : List UInt8) (n : Nat) : Array Value := ((sched l n).map (Value.int .u32) ++ List.replicate (64 - n) (Value.int .u32 0)).toArray

theorem arrW_size (l : List UInt8) (n : Nat) (h : n ≤ 64) : (arrW l n).size = 64 := by simp [arrW, sched_len]; omega

theorem arrW_get (l : List UInt8) (n j : Nat) (h : j < n) : (arrW l n)[j]? = some (.int .u32 ((sched l n).getD j 0)) := by
  have hl := sched_len l n
  unfold arrW
  rw [List.getElem?_toArray, List.getElem?_append_left (by simp; omega), List.getElem?_map, List.getD_eq_getElem?_getD, List.getElem?_eq_getElem (by omega)]
  rfl

theorem arrW_next (l : List UInt8) (n : Nat) (h : n < 64) : (arrW l n)[n]? = some (.int .u32 0) := by
  have hl := sched_len l n
  unfold arrW
  rw [List.getElem?_toArray, List.getElem?_append_right (by simp [hl])]
  rw [List.length_map, hl, Nat.sub_self, List.getElem?_replicate, if_pos (by omega)]

theorem arrW_one (l : List UInt8) (n : Nat) : (arrW l n).all (·.oneCell') = true := by
  rw [Array.all_eq_true_iff_forall_mem]
  intro x hx
  unfold arrW at hx
  rw [List.mem_toArray, List.mem_append] at hx
  rcases hx with hx | hx
  · obtain ⟨_, _, rfl⟩ := List.mem_map.1 hx; rfl
  · rw [List.eq_of_mem_replicate hx]; rfl

theorem arrW_set (l : List UInt8) (n : Nat) (h : n < 64) (x : Int) (hx : sched l (n + 1) = sched l n ++ [x]) : (arrW l n).setIfInBounds n (.int .u32 x) = arrW l (n + 1) := by
  have hl := sched_len l n
  unfold arrW
  rw [hx]
  apply Array.ext'
  simp only [Array.toList_setIfInBounds, List.map_append, List.map_cons, List.map_nil, List.append_assoc, List.cons_append, List.nil_append]
  rw [List.set_append_right _ _ (by simp [hl])]
  simp only [List.length_map, hl, Nat.sub_self]
  rw [show 64 - n = (64 - (n + 1)) + 1 from by omega, List.replicate_succ]
  rfl

theorem sched_own (l : List UInt8) (n : Nat) (h : n < 16) : sched l (n + 1) = sched l n ++ [ownW l n] := by rw [sched, if_pos h]
theorem sched_next (l : List UInt8) (n : Nat) (h : ¬ n < 16) : sched l (n + 1) = sched l n ++ [nextW ((sched l n).getD (n - 16) 0) ((sched l n).getD (n - 15) 0) ((sched l n).getD (n - 7) 0) ((sched l n).getD (n - 2) 0)] := by rw [sched, if_neg h]

end Go.Proofs.Ytfalaopljodmnaa
