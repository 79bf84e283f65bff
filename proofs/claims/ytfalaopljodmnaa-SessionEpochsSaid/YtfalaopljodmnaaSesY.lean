/- session: many frames, one behind the other. No walk. -/
import Derived.Test.YtfalaopljodmnaaSesM
import Derived.Test.YtfalaopljodmnaaSesH
import Derived.Test.YtfalaopljodmnaaSesK
namespace Go.Proofs.Ytfalaopljodmnaa

/-- A frame's fields within their bounds. -/
def FOk (F : Flds) : Prop := 1 ≤ F.epoch ∧ F.epoch ≤ 2147483647 ∧ F.known ≤ 2147483647 ∧ F.seq ≤ 2147483647 ∧ F.ack ≤ 2147483647 ∧ F.b.length ≤ 40000

theorem in_ok {S : St} {F : Flds} (h : SOk S) (hF : FOk F) : SOk (inSt S F).1 := by
  have h2 : SOk (gotSt S F) := ackSt_ok (metSt_ok h (by have := hF.2.1; omega)) _ _
  unfold inSt
  split
  · exact h
  · split
    · exact h2
    · exact (takeSt_ok (earlySt_ok h2 F.seq F.b ⟨by have := hF.2.2.2.1; omega, hF.2.2.2.2.2⟩)).1

theorem drain_len : ∀ (n : Nat) (h : Int) (E : List (Int × List UInt8)), (drain n h E).2.2.length ≤ n
  | 0, _, _ => by simp [drain]
  | n + 1, h, E => by
    unfold drain
    cases eget E (h + 1) with
    | none => simp
    | some b => have := drain_len n (h + 1) (edel E (h + 1)); simp; omega

theorem in_outs {S : St} {F : Flds} : (inSt S F).2.length ≤ S.early.length + 1 := by
  have h1 : (gotSt S F).early.length ≤ S.early.length := by
    unfold gotSt ackSt metSt
    split <;> simp [meetSt]
  unfold inSt
  split
  · simp
  · split
    · simp
    · unfold takeSt
      refine Nat.le_trans (drain_len _ _ _) ?_
      unfold earlySt
      dsimp only
      split
      · exact Nat.le_trans (eput_len _ _ _) (by omega)
      · omega

/-- All of them. -/
def foldIn : St → List Flds → St × List (List UInt8)
  | S, [] => (S, [])
  | S, F :: r => ((foldIn (inSt S F).1 r).1, (inSt S F).2 ++ (foldIn (inSt S F).1 r).2)

theorem foldIn_snoc (S : St) (F : Flds) : ∀ l : List Flds, foldIn S (l ++ [F]) = ((inSt (foldIn S l).1 F).1, (foldIn S l).2 ++ (inSt (foldIn S l).1 F).2) := by
  intro l
  induction l generalizing S with
  | nil => simp [foldIn]
  | cons G r ih => simp only [List.cons_append, foldIn, ih, List.append_assoc]

theorem foldIn_take {S : St} {l : List Flds} {j : Nat} {F : Flds} (h : l[j]? = some F) : foldIn S (l.take (j + 1)) = ((inSt (foldIn S (l.take j)).1 F).1, (foldIn S (l.take j)).2 ++ (inSt (foldIn S (l.take j)).1 F).2) := by
  rw [List.take_add_one, h]
  exact foldIn_snoc S F _

theorem foldIn_ok {S : St} (h : SOk S) : ∀ (l : List Flds), (∀ F ∈ l, FOk F) → SOk (foldIn S l).1 := by
  intro l
  induction l generalizing S with
  | nil => intro _; exact h
  | cons F r ih => intro hl; exact ih (in_ok h (hl F (by simp))) (fun G hG => hl G (by simp [hG]))

/-- What the frames of messages say. -/
def frsF (S : St) (now : Int) : Int → List Msg → List Flds
  | _, [] => []
  | q, m :: r => if due S now m then mkF S q m.b :: frsF S now (q + 1) r else frsF S now (q + 1) r

def outFl (S : St) (now : Int) : List Flds := if outFrames S now = [] ∧ S.tell = true then [mkF S 0 []] else frsF S now S.first (S.l.take 8)

theorem mkF_ok {S : St} (h : SOk S) {q : Int} {b : List UInt8} (hq : 0 ≤ q ∧ q ≤ 2147483647) (hb : b.length ≤ 40000) : FOk (mkF S q b) := by
  have h1 := h.epoch; have h2 := h.peer; have h3 := h.have_
  refine ⟨?_, ?_, ?_, ?_, ?_, hb⟩ <;> simp only [mkF] <;> omega

theorem frs_rd {S : St} (h : SOk S) (now : Int) : ∀ (l : List Msg) (q : Int), 1 ≤ q → q + l.length ≤ 2147483648 → (∀ m ∈ l, m.b.length ≤ 40000) → (frs S now q l).map rdF = (frsF S now q l).map some ∧ ∀ F ∈ frsF S now q l, FOk F
  | [], q, _, _, _ => ⟨rfl, by simp [frsF]⟩
  | m :: r, q, h1, h2, h3 => by
    have ih := frs_rd h now r (q + 1) (by omega) (by simp at h2; omega) (fun m' hm' => h3 m' (by simp [hm']))
    have hb := h3 m (by simp)
    simp only [List.length_cons] at h2
    unfold frs frsF
    split
    · refine ⟨?_, fun F hF => ?_⟩
      · rw [List.map_cons, List.map_cons, ih.1, rdF_frame h q m.b (by omega) (by omega) hb (.inl (by omega))]
      · simp only [List.mem_cons] at hF
        rcases hF with rfl | hF
        · exact mkF_ok h ⟨by omega, by omega⟩ hb
        · exact ih.2 F hF
    · exact ih

theorem out_rd {S : St} (h : SOk S) (now : Int) : (outSt S now).2.map rdF = (outFl S now).map some ∧ ∀ F ∈ outFl S now, FOk F := by
  unfold outSt outFl
  dsimp only
  split
  · refine ⟨?_, fun F hF => ?_⟩
    · rw [List.map_cons, List.map_cons, rdF_frame h 0 [] (by omega) (by omega) (by simp) (.inr rfl)]; rfl
    · simp only [List.mem_singleton] at hF
      subst hF
      exact mkF_ok h (by omega) (by simp)
  · refine frs_rd h now _ _ h.first.1 ?_ (fun m hm => (h.msg m (List.mem_of_mem_take hm)).1)
    have := h.first.2
    simp only [List.length_take]
    omega

theorem out_rd_get {S : St} (h : SOk S) (now : Int) {j : Nat} {x : List UInt8} (hx : (outSt S now).2[j]? = some x) : ∃ F, (outFl S now)[j]? = some F ∧ rdF x = some F ∧ FOk F := by
  have h1 : ((outSt S now).2.map rdF)[j]? = some (rdF x) := by rw [List.getElem?_map, hx]; rfl
  rw [(out_rd h now).1, List.getElem?_map] at h1
  cases hf : (outFl S now)[j]? with
  | none => rw [hf] at h1; cases h1
  | some F =>
    rw [hf] at h1
    exact ⟨F, rfl, by simpa using h1.symm, (out_rd h now).2 F (List.mem_of_getElem? hf)⟩

theorem out_len {S : St} (h : SOk S) (now : Int) : (outFl S now).length = (outSt S now).2.length := by
  have := congrArg List.length (out_rd h now).1
  simpa using this.symm

theorem out_le (S : St) (now : Int) : (outSt S now).2.length ≤ 8 := by
  unfold outSt
  dsimp only
  split
  · simp
  · have := frs_len S now (S.l.take 8) S.first
    have h2 := List.length_take_le 8 S.l
    unfold outFrames
    omega

theorem out_ok {S : St} (h : SOk S) {now : Int} (hn : -1000000000000 ≤ now ∧ now ≤ 1000000000000) : SOk (outSt S now).1 := by
  have hl : (outL S now).length = S.l.length := by unfold outL; simp; omega
  refine ⟨h.epoch, h.wait, ?_, ?_, h.peer, h.have_, ?_, h.early⟩
  · show 1 ≤ S.first ∧ S.first + (outL S now).length ≤ 2147483647
    rw [hl]; exact h.first
  · show (outL S now).length ≤ 200
    rw [hl]; exact h.len
  · intro m hm
    have hm : m ∈ outL S now := hm
    unfold outL at hm
    rw [List.mem_append] at hm
    rcases hm with hm | hm
    · obtain ⟨m', h1, rfl⟩ := List.mem_map.1 hm
      have := h.msg m' (List.mem_of_mem_take h1)
      unfold updM
      split
      · exact ⟨this.1, hn⟩
      · exact this
    · exact h.msg m (List.mem_of_mem_drop hm)

end Go.Proofs.Ytfalaopljodmnaa
