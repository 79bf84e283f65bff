/- session: what In changes. No walk. -/
import Derived.Test.YtfalaopljodmnaaSesI
namespace Go.Proofs.Ytfalaopljodmnaa
open Go.RowKit

/-- 'l[k:]' of a slice that owns its row. -/
theorem run_slOwn {P : Program} {W : World} (t e : TypeId) (i : TypeInfo) (size : Nat) (ht : P.underlying t = some (.slice e)) (hi : P.info? e = some i) (hsz : i.size = size) (ao : Option Addr) (n c : Nat) (xs : List Value) (h : Own W e size (.slice ao n c) n xs) (k : Nat) (hk : k ≤ n) :
    ∃ a' c', (∀ w : World, (Instr.sliceAt t (.slice ao n c) (some (.int .i64 (k : Int))) none none).run P w = .ok (.slice a' (n - k) c') w) ∧ Own W e size (.slice a' (n - k) c') (n - k) (xs.drop (k * size)) ∧
      (∀ q, Value.ownBlock (.slice a' (n - k) c') = some q → Value.ownBlock (.slice ao n c) = some q) := by
  subst hsz
  have hnc : n ≤ c := by obtain ⟨_, ao', c', e, h1, _⟩ := h.rg; cases e; exact h1
  have run : ∀ w : World, (Instr.sliceAt t (.slice ao n c) (some (.int .i64 (k : Int))) none none).run P w = .ok (.slice (if c = k then ao else ao.map (·.add (k * i.size))) (n - k) (c - k)) w := by
    intro w
    have hc' : n ≤ c := hnc
    simp [Instr.sliceAt, Instr.slice, run_underlying ht, Instr.sliceBounds, Instr.sliceBound, sizeOf, typeInfo, asIntOf, *]
  obtain ⟨hl, h2⟩ := h
  refine ⟨_, _, run, ⟨?_, ?_⟩, ?_⟩
  · rw [List.length_drop, hl, ← Nat.sub_mul]
  · rcases h2 with ⟨h0, h00⟩ | ⟨g, o, c', cur, f, h0, h1, h2, h3, h4, h5, h6⟩
    · cases h0
      left
      have : k = 0 := by omega
      subst this
      exact ⟨by simp, by omega⟩
    · cases h0
      by_cases hck : c = k
      · refine .inr ⟨g, o, 0, cur, f, ?_, by omega, Nat.zero_le _, h3, h4, by omega, fun j hj => ?_⟩
        · rw [if_pos hck]; congr 1; omega
        · rw [List.length_drop, hl] at hj
          have : n - k = 0 := by omega
          rw [← Nat.sub_mul, this] at hj
          omega
      · refine .inr ⟨g, o + k * i.size, c - k, cur, f, ?_, by omega, by omega, h3, h4, ?_, fun j hj => ?_⟩
        · rw [if_neg hck]; simp [addr_add]
        · rw [Nat.sub_mul]; have := Nat.mul_le_mul_right i.size (show k ≤ c by omega); omega
        · rw [List.length_drop] at hj
          rw [Nat.add_assoc, h6 (k * i.size + j) (by omega)]
          simp
  · intro q hq
    cases ao with
    | none => by_cases hcl : c = k <;> simp [hcl, Value.ownBlock] at hq
    | some a =>
      by_cases hcl : c = k
      · simpa [hcl, Value.ownBlock] using hq
      · simpa [hcl, Value.ownBlock, Addr.add, apply_ite Addr.block] using hq

theorem metSt_ok {S : St} {F : Flds} (h : SOk S) (h1 : (F.epoch : Int) ≤ 2147483647) : SOk (metSt S F) := by
  unfold metSt
  split
  · exact ⟨h.epoch, h.wait, by simp [meetSt]; have := h.len; omega, by simpa [meetSt] using h.len, ⟨by simp [meetSt], by simpa [meetSt] using h1⟩, by simp [meetSt], by
      intro m hm
      simp only [meetSt, List.mem_map] at hm
      obtain ⟨m', hm', rfl⟩ := hm
      exact h.msg m' hm', by simp [meetSt]⟩
  · exact h

theorem ackN_le (S : St) (k a : Int) : ackN S k a ≤ S.l.length := by
  unfold ackN; split <;> omega

theorem ackSt_ok {S : St} (h : SOk S) (k a : Int) : SOk (ackSt S k a) := by
  have hl := ackN_le S k a
  refine ⟨h.epoch, h.wait, ?_, ?_, h.peer, h.have_, fun m hm => h.msg m (List.mem_of_mem_drop hm), h.early⟩
  · simp only [ackSt, List.length_drop]; have := h.first; omega
  · simp only [ackSt, List.length_drop]; have := h.len; omega

theorem earlySt_ok {S : St} (h : SOk S) (q : Int) (b : List UInt8) (hq : q ≤ 2147483647 ∧ b.length ≤ 40000) : SOk (earlySt S q b) := ⟨h.epoch, h.wait, h.first, h.len, h.peer, h.have_, h.msg, by
  intro p hp
  simp only [earlySt] at hp
  split at hp
  · simp only [eput, List.mem_cons] at hp
    rcases hp with rfl | hp
    · exact hq
    · exact h.early p (edel_sub p hp)
  · exact h.early p hp⟩

/-- A key is stored. -/
theorem Se.stored {W W' : World} {sb : Nat} {S : St} {rv : Value} {vs : List Value} {mb N N' : Nat} {E : List (Int × List UInt8)} (h : Se W sb S rv vs mb N) (he : EM W' mb E N') (f : Fr (fun q => q = mb) W W') :
    Se W' sb { S with early := E } rv vs mb N' := by
  have nb : NB W (fun q => q = mb) := fun q cs fz hq hc => h.nb q cs fz (.inr (.inr hq)) hc
  exact ⟨f.heap h.blk (fun e => h.sep.1 e.symm), h.len, h.row.keep f (fun q hq e => h.sep.2 (e ▸ hq)), fun i v m hi => ⟨(h.bs i v m hi).1.keep f nb, (h.bs i v m hi).2⟩, he, h.ap⟩

set_option maxRecDepth 100000 in
set_option maxHeartbeats 800000 in
theorem bclone_c (v : Value) (l : List UInt8) (w : World) (hr : Rd w v l) (hl : l.length ≤ 70368744177664) :
    Calls Try.prog 74 #[v] w fun e w' => ∃ v', e = .returned v' ∧ Ob w' 5 v' l ∧ Fr F0 w w' ∧ New w v' ∧ (v' = .slice none 0 0 ↔ v = .slice none 0 0) := by
  obtain ⟨_, ao, c, rfl, hlc, _, hz, _⟩ := id hr
  cases ao with
  | none =>
    obtain rfl := hz rfl
    obtain rfl : l = [] := List.eq_nil_of_length_eq_zero (by omega)
    clear hr hz
    have hq := fun (w : World) => Lib.run_eql_slice_nil (P := Try.prog) w 25 5 none 0 0 0 0 Try.underlying25
    go_enter Try.func74, Try.ntmps74
    go_wp2_with fail
    go_ret
    exact ⟨_, rfl, Ob.nil _ _, Fr.refl _ _, New.nil _ _ _, by simp⟩
  | some ad =>
    have HR := hid hr
    have HL := hid hl
    clear hr hl hz
    have hq := fun (w : World) => Lib.run_eql_slice_nil (P := Try.prog) w 25 5 (some ad) l.length c 0 0 Try.underlying25
    go_enter Try.func74, Try.ntmps74
    go_wp2_with (at_builtin; refine wpList_appB rfl (.tmp 5) (.tmp 6) 25 rfl 5 Try.underlying25 infoB (.slice (some ⟨w.heap.size, 0, none⟩) 0 0) (.slice (some ad) l.length c) [] l rfl rfl ?c1 ?c2 ?c3 ?_)
    case c1 => exact ⟨rfl, .inr ⟨w.heap.size, 0, 0, _, _, rfl, Nat.le_refl _, Nat.zero_le _, heap_alloc_last _ _, .inl rfl, by simp, fun j hj => by simp at hj⟩⟩
    case c2 => exact HR.out.keep0 ((Fr.refl _ _).alloc _)
    case c3 => have := HL.out; simp; omega
    intro v' w1 ho hg hn hz
    have H : Hid (Ob w1 5 v' l ∧ Fr F0 w w1 ∧ New w v' ∧ v' ≠ .slice none 0 0) := hid ⟨by simpa using ho, ((Fr.refl _ _).alloc _).grown hg (fun k hk h => by simp [Value.ownBlock] at hk; omega),
      fun k hk => by rcases hn k hk with h | h; (simp [Value.ownBlock] at h; omega); omega, by simpa using hz⟩
    clear ho hg hn hz
    go_wp2_with fail
    go_ret
    exact ⟨_, rfl, H.out.1, H.out.2.1, H.out.2.2.1, by simp [H.out.2.2.2]⟩

theorem drop_zip' {α β : Type} : ∀ (k : Nat) (a : List α) (b : List β), (a.zip b).drop k = (a.drop k).zip (b.drop k)
  | 0, _, _ => rfl
  | _ + 1, [], _ => by simp
  | _ + 1, _ :: _, [] => by simp
  | k + 1, _ :: r, _ :: s => by simp [drop_zip' k r s]

/-- What is known to have come is forgotten. -/
theorem Se.acked {W : World} {sb : Nat} {S : St} {rv rv' : Value} {vs : List Value} {mb N : Nat} (h : Se W sb S rv vs mb N) (k : Nat) (ho : Own W 118 3 rv' (S.l.length - k) ((mcells (vs.zip S.l)).drop (k * 3)))
    (hb : ∀ q, rv'.ownBlock = some q → rv.ownBlock = some q) :
    Se ((W.setCell ⟨sb, 3, none⟩ rv').setCell ⟨sb, 2, none⟩ (.int .i64 (S.first + k))) sb { S with l := S.l.drop k, first := S.first + k } rv' (vs.drop k) mb N ∧
      Fr (fun q => q = sb) W ((W.setCell ⟨sb, 3, none⟩ rv').setCell ⟨sb, 2, none⟩ (.int .i64 (S.first + k))) := by
  have f : Fr (fun q => q = sb) W ((W.setCell ⟨sb, 3, none⟩ rv').setCell ⟨sb, 2, none⟩ (.int .i64 (S.first + k))) :=
    ((Fr.refl (fun q => q = sb) W).setCell (p := ⟨sb, 3, none⟩) (fun _ => rfl) _).setCell (p := ⟨sb, 2, none⟩) (fun _ => rfl) _
  have hz : (vs.drop k).zip (S.l.drop k) = (vs.zip S.l).drop k := (drop_zip' k vs S.l).symm
  refine ⟨⟨heap_setCell (heap_setCell h.blk 3 rv') 2 _, by simp [h.len], ?_, ?_, h.em.keep f h.sep.1 (NB.sb h), fun e => h.ap (hb sb e)⟩, f⟩
  · have := ho.keep f (fun q hq e => h.ap (hb sb (e ▸ hq)))
    dsimp only
    rw [hz, mcells_drop, List.length_drop]
    exact this
  · intro i v m hi
    dsimp only at hi
    rw [hz, List.getElem?_drop] at hi
    exact ⟨(h.bs _ v m hi).1.keep f (NB.sb h), (h.bs _ v m hi).2⟩

end Go.Proofs.Ytfalaopljodmnaa
