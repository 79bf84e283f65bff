/- Words that are used by more than vote. -/
import Derived.Test.YtfalaopljodmnaaWW
import Derived.Test.YtfalaopljodmnaaAwake3
namespace Go.Proofs.Ytfalaopljodmnaa
open Go.RowKit

theorem opened_len {l x : List UInt8} (h : opened l = some x) : x.length + 32 = l.length := by
  unfold opened at h
  split at h
  · cases h; rw [List.length_take]; omega
  · cases h

theorem Rd.keepR {S : Nat → Prop} {w w' : World} {v : Value} {l : List UInt8} (h : Rd w v l) (f : Fr S w w') (hn : ∀ k, rblk v = some k → ¬ S k) : Rd w' v l := Rg.keep h f hn

theorem Rd.oneM (w : World) (u : UInt8) (e : Nat) (f : Nat × Nat) : Rd (w.alloc (.cells #[.int .u8 u.toNat] e f)) (.slice (some ⟨w.heap.size, 0, none⟩) 1 1) [u] := by
  refine ⟨rfl, _, 1, rfl, Nat.le_refl _, by simp [maxLen], (fun h => by cases h), fun _ => ⟨w.heap.size, 0, rfl, by simp, fun j hj => ?_⟩⟩
  obtain rfl : j = 0 := by simpa using hj
  rw [cell_at (heap_alloc_last _ _)]; rfl

theorem Yes.of {w w1 : World} (f : Fr F0 w w1) {e : Ending} {w' : World} (h : Yes w1 e w') : Yes w e w' := ⟨h.1, F0.and f h.2⟩

/-- 'string(b)'; the operation is looked at first. -/
theorem wpList_str {w : World} {ops : Array Oper} {rest : List Oper} {o : Oper} {a : Act} {Q : Exit → Act → World → Prop} (x : Operand) (ho : o.op = .convert 25 9 x) (v : Value) (l : List UInt8)
    (hx : a.eval x = v) (hr : Rd w v l) (hgd : Region.wanted o (yielded ops a.tmps) = true) (h : wpList Try.prog ops Q rest (a.put o.dst (.string ⟨l.toArray⟩)) w) : wpList Try.prog ops Q (o :: rest) a w :=
  wpList_strB hgd x 25 9 ho 5 Try.underlying25 Try.underlying5 str_ty v l hx hr h

/-- The error's number. -/
def oer (o : Option (List UInt8)) (e0 : Int) : Int := if o.isSome then 0 else e0

end Go.Proofs.Ytfalaopljodmnaa
