/- codec.Writer: what each method does to it. -/
import Derived.Test.YtfalaopljodmnaaBase
import Derived.Test.YtfalaopljodmnaaMath
import Derived.Test.YtfalaopljodmnaaProg
namespace Go.Proofs.Ytfalaopljodmnaa
open Go.RowKit

theorem infoB : (Try.prog.info? 5).map (fun i => (i.zero, i.size, i.bytes)) = some (some (.int .u8 0), 1, 1) := by kernel_rfl

/-- A codec.Writer at block pb: its field is v, which reads l; spoiled or not. -/
structure Wr (w : World) (pb : Nat) (v : Value) (l : List UInt8) (bad : Bool) : Prop where
  blk : w.heap[pb]? = some (.cells #[v, .bool bad] 48 (0, 0))
  own : Ob w 5 v l
  apart : v.ownBlock ≠ some pb

/-- What a method may change. -/
def WS (pb : Nat) (v : Value) : Nat → Prop := fun k => k = pb ∨ v.ownBlock = some k

/-- A method has made out of the Writer (v) at pb one with l' in it. -/
structure WTo (w w' : World) (pb : Nat) (v v' : Value) (l' : List UInt8) (bad' : Bool) : Prop where
  wr : Wr w' pb v' l' bad'
  fr : Fr (WS pb v) w w'
  new : ∀ k, v'.ownBlock = some k → v.ownBlock = some k ∨ w.heap.size ≤ k

theorem Wr.lt {w pb v l bad} (h : Wr w pb v l bad) : pb < w.heap.size := lt_of_heap h.blk

theorem Wr.refl {w pb v l bad} (h : Wr w pb v l bad) : WTo w w pb v v l bad := ⟨h, Fr.refl _ _, fun _ h => .inl h⟩

theorem WTo.trans {w1 w2 w3 : World} {pb : Nat} {v1 v2 v3 : Value} {l l' : List UInt8} {b b' : Bool} (h : WTo w1 w2 pb v1 v2 l b) (k : WTo w2 w3 pb v2 v3 l' b') : WTo w1 w3 pb v1 v3 l' b' :=
  ⟨k.wr, h.fr.trans k.fr (fun i hi e => by
      rcases e with e | e
      · exact .inl e
      · rcases h.new i e with e | e
        · exact .inr e
        · omega),
   fun i e => by
      rcases k.new i e with e | e
      · exact h.new i e
      · exact .inr (Nat.le_trans h.fr.size e)⟩

theorem Wr.keep {S : Nat → Prop} {w w' : World} {pb v l bad} (h : Wr w pb v l bad) (f : Fr S w w') (hp : ¬ S pb) (hv : ∀ k, v.ownBlock = some k → ¬ S k) : Wr w' pb v l bad :=
  ⟨f.heap h.blk hp, h.own.keep f hv, h.apart⟩

theorem Wr.keep0 {w w' : World} {pb v l bad} (h : Wr w pb v l bad) (f : Fr F0 w w') : Wr w' pb v l bad := h.keep f (fun e => e) (fun _ _ e => e)

/-- A new []byte is stored into the Writer. -/
theorem Wr.put {w w' : World} {pb v v' l l' bad} (h : Wr w pb v l bad) (g : w.grownBy w' v.ownBlock) (o : Ob w' 5 v' l') (n : ∀ k, v'.ownBlock = some k → v.ownBlock = some k ∨ w.heap.size ≤ k) :
    WTo w (w'.setCell ⟨pb, 0, none⟩ v') pb v v' l' bad := by
  have hb : w'.heap[pb]? = some (.cells #[v, .bool bad] 48 (0, 0)) := by
    rw [g.block pb h.lt (fun e => h.apart e.symm)]; exact h.blk
  have hap : v'.ownBlock ≠ some pb := fun e => by
    rcases n pb e with e | e
    · exact h.apart e
    · have := h.lt; omega
  refine ⟨⟨by rw [heap_setCell hb]; rfl, o.keep (S := fun k => k = pb) ((Fr.refl (fun k => k = pb) w').setCell (p := ⟨pb, 0, none⟩) (fun _ => rfl) _) (fun k hk e => by subst e; exact hap hk), hap⟩, ?_, n⟩
  exact ((Fr.refl _ _).grown g (fun k e _ => .inr e)).setCell (p := ⟨pb, 0, none⟩) (fun _ => .inl rfl) _

/-- What the walk wants of the Writer's cells in a world behind an append. -/
theorem Wr.cells {w w' : World} {pb v l bad} (h : Wr w pb v l bad) (g : w.grownBy w' v.ownBlock) : w'.cell? ⟨pb, 0, none⟩ = some v ∧ w'.frozen? ⟨pb, 0, none⟩ = false := by
  have hb : w'.heap[pb]? = some (.cells #[v, .bool bad] 48 (0, 0)) := by
    rw [g.block pb h.lt (fun e => h.apart e.symm)]; exact h.blk
  exact ⟨by rw [cell_at hb]; rfl, frozen_at hb 0⟩

theorem Wr.c0 {w : World} {pb v l bad} (h : Wr w pb v l bad) : w.cell? ⟨pb, 0, none⟩ = some v := by rw [cell_at h.blk]; rfl
theorem Wr.c1 {w : World} {pb v l bad} (h : Wr w pb v l bad) : w.cell? ⟨pb, 1, none⟩ = some (.bool bad) := by rw [cell_at h.blk]; rfl
theorem Wr.f {w : World} {pb v l bad} (h : Wr w pb v l bad) (i : Nat) : w.frozen? ⟨pb, i, none⟩ = false := frozen_at h.blk i

theorem Wr.spoil {w : World} {pb v l bad} (h : Wr w pb v l bad) : WTo w (w.setCell ⟨pb, 1, none⟩ (.bool true)) pb v v l true := by
  have hf := (Fr.refl (fun k => k = pb) w).setCell (p := ⟨pb, 1, none⟩) (fun _ => rfl) (.bool true)
  exact ⟨⟨by rw [heap_setCell h.blk]; rfl, h.own.keep hf (fun k hk e => h.apart (e ▸ hk)), h.apart⟩, hf.mono (fun _ _ e => .inl e), fun _ e => .inl e⟩

set_option maxRecDepth 100000 in
set_option maxHeartbeats 800000 in
theorem put_c (pb : Nat) (v : Value) (l : List UInt8) (bad : Bool) (n size : Int) (w : World) (hw : Wr w pb v l bad)
    (hn : 0 ≤ n) (hs0 : 0 ≤ size) (hs : size ≤ 8) (hl : l.length ≤ 70368744177664) :
    Calls Try.prog 64 #[.pointer (some ⟨pb, 0, none⟩), .int .u64 n, .int .i64 size] w fun e w' => e = .returned (.tuple #[]) ∧ ∃ v', WTo w w' pb v v' (l ++ leB size.toNat n.toNat) bad := by
  obtain ⟨n, rfl⟩ := Int.eq_ofNat_of_zero_le hn
  obtain ⟨size, rfl⟩ := Int.eq_ofNat_of_zero_le hs0
  have HL := hid hl
  clear hl hn hs0
  go_enter Try.func64, Try.ntmps64
  go_wp2
  go_loopw [1, 7] (fun x i wr => ∃ (k m : Nat) (v' : Value), k ≤ size ∧ i = .int .i64 k ∧ x = .int .u64 m ∧ Hid (m = n / 256 ^ k) ∧ Hid (WTo w wr pb v v' (l ++ leB k n) bad))
    (fun _ i _ => size - (intOf i).toNat)
  case atStart => exact ⟨0, n, v, by omega, rfl, rfl, hid (by simp), hid (by simpa [leB] using hw.refl)⟩
  case round =>
    obtain ⟨k, m, v', hk, rfl, rfl, hm, HW⟩ := hrel
    by_cases hlt : k < size
    · have hc : wr.cell? ⟨pb, 0, none⟩ = some v' := HW.out.wr.c0
      go_wp2_with (at_builtin; refine wpList_appB rfl (.tmp 13) (.tmp 16) 25 rfl 5 Try.underlying25 infoB v' _ (l ++ leB k n) [UInt8.ofNat m] rfl rfl ?c1 ?c2 ?c3 ?_)
      case c1 => exact HW.out.wr.own.keep0 ((Fr.refl _ _).alloc _)
      case c2 => have := Rd.one wr (UInt8.ofNat m) 5; rw [b8_ofNat] at this; exact this
      case c3 => have := HL.out; simp [leB_length]; omega
      intro v2 w1 ho hg hnew _
      have f0 : Fr F0 wr (wr.alloc (.cells #[Value.int .u8 ((m : Int) % 256)] 5)) := (Fr.refl _ _).alloc _
      have W0 := HW.out.wr.keep0 f0
      have HW1 := hid (HW.out.trans ((⟨W0, f0.mono (fun _ _ e => e.elim), fun _ e => .inl e⟩ : WTo wr _ pb v' v' _ bad).trans (W0.put hg ho (by simpa using hnew))))
      obtain ⟨hc1, hf1⟩ := W0.cells hg
      obtain ⟨ao, n2, c2, rfl⟩ := ho.form
      clear W0 ho hg hnew f0
      go_wp2_with fail
      go_roundw
      case rel => exact ⟨k + 1, _, _, by omega, by go_num, rfl, hid (by rw [hm.out, Nat.div_div_eq_div_mul, Nat.pow_succ]), hid (by rw [leB_succ, ← hm.out]; exact HW1.out)⟩
      case measure => simp [intOf]; omega
    · go_wp2_with fail
      go_end0
      have : k = size := by omega
      subst this
      exact ⟨rfl, v', by simpa using HW.out⟩

set_option maxRecDepth 100000 in
set_option maxHeartbeats 800000 in
theorem wnum_ok (pb : Nat) (v : Value) (l : List UInt8) (bad : Bool) (n : Int) (w : World) (hw : Wr w pb v l bad) (h0 : 0 ≤ n) (h1 : n ≤ 2147483647) (hl : l.length ≤ 70368744177664) :
    Calls Try.prog 20 #[.pointer (some ⟨pb, 0, none⟩), .int .i64 n] w fun e w' => e = .returned (.pointer (some ⟨pb, 0, none⟩)) ∧ ∃ v', WTo w w' pb v v' (l ++ leB 4 n.toNat) bad := by
  go_enter Try.func20, Try.ntmps20
  go_wp2_with (go_at_call 64; refine (put_c pb v l bad _ _ _ hw h0 (by omega) (by omega) hl).mono ?_; rintro e w1 ⟨rfl, v1, hW1⟩; have HW1 := hid hW1; clear hW1)
  go_ret
  exact ⟨rfl, v1, HW1.out⟩

theorem wnum_bad (pb : Nat) (v : Value) (l : List UInt8) (bad : Bool) (n : Int) (w : World) (hw : Wr w pb v l bad) (h0 : n < 0 ∨ 2147483647 < n) :
    Calls Try.prog 20 #[.pointer (some ⟨pb, 0, none⟩), .int .i64 n] w fun e w' => e = .returned (.pointer (some ⟨pb, 0, none⟩)) ∧ ∃ v', WTo w w' pb v v' l true := by
  have hc := hw.c1
  have hf := hw.f 1
  have H := hid hw.spoil
  rcases h0 with h0 | h0
  · go_enter Try.func20, Try.ntmps20
    go_wp2_with fail
    go_ret
    exact ⟨rfl, v, H.out⟩
  · have h0' : ¬ n < 0 := by omega
    go_enter Try.func20, Try.ntmps20
    go_wp2_with fail
    go_ret
    exact ⟨rfl, v, H.out⟩

theorem wnum_nil (n : Int) (w : World) : Calls Try.prog 20 #[.pointer none, .int .i64 n] w fun e w' => e = .returned (.pointer none) ∧ w = w' := by
  go_enter Try.func20, Try.ntmps20
  go_wp2_with fail
  go_ret
  exact ⟨rfl, rfl⟩

theorem wword_c (pb : Nat) (v : Value) (l : List UInt8) (bad : Bool) (n : Int) (w : World) (hw : Wr w pb v l bad) (h0 : 0 ≤ n) (hl : l.length ≤ 70368744177664) :
    Calls Try.prog 58 #[.pointer (some ⟨pb, 0, none⟩), .int .u64 n] w fun e w' => e = .returned (.pointer (some ⟨pb, 0, none⟩)) ∧ ∃ v', WTo w w' pb v v' (l ++ leB 8 n.toNat) bad := by
  go_enter Try.func58, Try.ntmps58
  go_wp2_with (go_at_call 64; refine (put_c pb v l bad _ _ _ hw h0 (by omega) (by omega) hl).mono ?_; rintro e w1 ⟨rfl, v1, hW1⟩; have HW1 := hid hW1; clear hW1)
  go_ret
  exact ⟨rfl, v1, HW1.out⟩

end Go.Proofs.Ytfalaopljodmnaa
