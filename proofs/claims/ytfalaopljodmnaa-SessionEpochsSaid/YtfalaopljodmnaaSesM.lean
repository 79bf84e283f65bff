/- session: a frame is read as it was written. No walk. -/
import Derived.Test.YtfalaopljodmnaaSesF
namespace Go.Proofs.Ytfalaopljodmnaa

theorem rnum_of (n : Nat) (r : List UInt8) (h : n ≤ 2147483647) : rnum (leB 4 n ++ r) 0 = (n, r, 0) := by
  have ht : (leB 4 n ++ r).take 4 = leB 4 n := List.take_left' (leB_length 4 n)
  have hd : (leB 4 n ++ r).drop 4 = r := List.drop_left' (leB_length 4 n)
  have hv : leV (leB 4 n) = n := by rw [leV_leB]; omega
  unfold rnum
  rw [if_neg (by simp), if_neg (by rw [List.length_append, leB_length]; omega), ht, hd, hv, if_neg (by omega)]

theorem rbytes_of (b : List UInt8) (most : Int) (h : b.length ≤ 2147483647) (hm : (b.length : Int) ≤ most) : rbytes (leB 4 b.length ++ b) 0 most = (b, [], 0) := by
  unfold rbytes
  rw [rnum_of _ _ h]
  rw [if_neg (by simp), if_neg (by simp), if_neg (by simp; omega)]
  simp

def mkF (S : St) (seq : Int) (b : List UInt8) : Flds := ⟨S.epoch.toNat, S.peer.toNat, seq.toNat, S.have_.toNat, b⟩

theorem rdF_frame {S : St} (h : SOk S) (seq : Int) (b : List UInt8) (h0 : 0 ≤ seq) (h1 : seq ≤ 2147483647) (hb : b.length ≤ 40000) (hs : 0 < seq ∨ b = []) : rdF (frameB S seq b) = some (mkF S seq b) := by
  have he := h.epoch
  have hp := h.peer
  have hh := h.have_
  unfold rdF frameB
  rw [opened_sealed]
  show fldOf _ = _
  have e1 : rd1 (frameI S.epoch.toNat S.peer.toNat seq.toNat S.have_.toNat b) = (S.epoch.toNat, leB 4 S.peer.toNat ++ (leB 4 seq.toNat ++ (leB 4 S.have_.toNat ++ (leB 4 b.length ++ b))), 0) := rnum_of _ _ (by omega)
  have e2 : rd2 (frameI S.epoch.toNat S.peer.toNat seq.toNat S.have_.toNat b) = (S.peer.toNat, leB 4 seq.toNat ++ (leB 4 S.have_.toNat ++ (leB 4 b.length ++ b)), 0) := by unfold rd2; rw [e1]; exact rnum_of _ _ (by omega)
  have e3 : rd3 (frameI S.epoch.toNat S.peer.toNat seq.toNat S.have_.toNat b) = (seq.toNat, leB 4 S.have_.toNat ++ (leB 4 b.length ++ b), 0) := by unfold rd3; rw [e2]; exact rnum_of _ _ (by omega)
  have e4 : rd4 (frameI S.epoch.toNat S.peer.toNat seq.toNat S.have_.toNat b) = (S.have_.toNat, leB 4 b.length ++ b, 0) := by unfold rd4; rw [e3]; exact rnum_of _ _ (by omega)
  have e5 : rd5 (frameI S.epoch.toNat S.peer.toNat seq.toNat S.have_.toNat b) = (b, [], 0) := by unfold rd5; rw [e4]; exact rbytes_of _ _ (by omega) (by omega)
  unfold fldOf
  rw [e1, e2, e3, e4, e5]
  rw [if_pos]
  · rfl
  · refine ⟨rfl, rfl, by dsimp only; omega, ?_⟩
    rcases hs with hs | hs
    · left; dsimp only; omega
    · right; exact hs

theorem frameB_len (S : St) (seq : Int) (b : List UInt8) : (frameB S seq b).length = b.length + 52 := by
  unfold frameB sealed
  rw [List.length_append, sha_len, frameI_len]

theorem takeSt_ok {S : St} (h : SOk S) : SOk (takeSt S).1 ∧ ∀ b ∈ (takeSt S).2, b.length ≤ 40000 := by
  have key : ∀ (n : Nat) (x : Int) (E : List (Int × List UInt8)), (0 ≤ x ∧ x ≤ 2147483647) → (∀ p ∈ E, p.1 ≤ 2147483647 ∧ p.2.length ≤ 40000) →
      (0 ≤ (drain n x E).1 ∧ (drain n x E).1 ≤ 2147483647) ∧ (∀ p ∈ (drain n x E).2.1, p.1 ≤ 2147483647 ∧ p.2.length ≤ 40000) ∧ (∀ b ∈ (drain n x E).2.2, b.length ≤ 40000) := by
    intro n
    induction n with
    | zero => intro x E h1 h2; exact ⟨h1, h2, by simp [drain]⟩
    | succ n ih =>
      intro x E h1 h2
      unfold drain
      cases hg : eget E (x + 1) with
      | none => exact ⟨h1, h2, by simp⟩
      | some b =>
        have hm := h2 _ (eget_mem hg)
        have := ih (x + 1) (edel E (x + 1)) ⟨by omega, hm.1⟩ (fun p hp => h2 p (edel_sub p hp))
        refine ⟨this.1, this.2.1, fun b' hb' => ?_⟩
        simp only [List.mem_cons] at hb'
        rcases hb' with rfl | hb'
        · exact hm.2
        · exact this.2.2 b' hb'
  have := key S.early.length S.have_ S.early h.have_ h.early
  exact ⟨⟨h.epoch, h.wait, h.first, h.len, h.peer, this.1, h.msg, this.2.1⟩, this.2.2⟩

end Go.Proofs.Ytfalaopljodmnaa
