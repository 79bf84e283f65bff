/- session: Reset; linnetlaw20: fresh; appending a list to a list. -/
import Derived.Test.YtfalaopljodmnaaSesT
import Derived.Test.YtfalaopljodmnaaSesY
import Derived.Test.YtfalaopljodmnaaArr
namespace Go.Proofs.Ytfalaopljodmnaa
open Go.RowKit Go.Maps

theorem all8 (epoch wait : Int) (mb' : Nat) : (#[.int .i64 epoch, .int .i64 wait, .int .i64 1, .slice none 0 0, .int .i64 0, .int .i64 0, .map (some mb'), .bool false] : Array Value).all (·.oneCell') = true := by
  rw [Array.all_eq_true_iff_forall_mem]
  intro x hx
  simp at hx
  rcases hx with rfl | rfl | rfl | rfl | rfl | rfl | rfl <;> rfl

theorem infoSes : (Try.prog.info? 116).map (·.size) = some 8 := by kernel_rfl

set_option maxRecDepth 100000 in
theorem reset_lo {sb : Nat} {S : St} {rv : Value} {vs : List Value} {mb N : Nat} (epoch : Int) (w : World) (h : Se w sb S rv vs mb N) (h1 : 1 ≤ epoch) (h2 : epoch ≤ 2147483647) (h3 : epoch ≤ S.epoch) :
    Calls Try.prog 56 #[.pointer (some ⟨sb, 0, none⟩), .int .i64 epoch] w fun e w' => e = .returned (.int .i64 1) ∧ w = w' := by
  have hm : mayB epoch = true := by simp [mayB, h1, h2]
  have c0 : w.cell? ⟨sb, 0, none⟩ = some (.int .i64 S.epoch) := by rw [cell_at h.blk]; rfl
  clear h
  go_enter Try.func56, Try.ntmps56
  go_wp2_with fail
  refine (may_c epoch _).mono ?_
  rintro e w1 ⟨rfl, rfl⟩
  rw [hm]
  go_wp2_with fail
  go_ret
  exact ⟨rfl, rfl⟩

theorem Se.reset {w w2 w3 : World} {sb nb : Nat} {S : St} {rv : Value} {vs : List Value} {mb mb' N : Nat} {epoch : Int} (h : Se w sb S rv vs mb N) (s2 : Se w2 nb (fresh epoch S.wait) (.slice none 0 0) [] mb' 0) (f2 : Fr F0 w w2) (n2 : SeNew w nb (.slice none 0 0) mb')
    (g3 : w3.heap[sb]? = some (.cells #[.int .i64 epoch, .int .i64 S.wait, .int .i64 1, .slice none 0 0, .int .i64 0, .int .i64 0, .map (some mb'), .bool false] 116 (0, 0))) (f3 : Fr (fun k => k = sb) w2 w3) :
    Se w3 sb (fresh epoch S.wait) (.slice none 0 0) [] mb' 0 ∧ Fr (SeM sb rv mb) w w3 ∧ w.heap.size ≤ mb' := by
  have hlt := h.lt sb (.inl rfl)
  have hm : w.heap.size ≤ mb' := n2 mb' (.inr (.inr rfl))
  refine ⟨⟨g3, rfl, Own.nil _ _ _, fun i v m hi => by simp [fresh] at hi, s2.em.keep f3 (fun e => by omega) (NB.sb (h.keep0 f2)), by simp [Value.ownBlock]⟩, Fr.trans (f2.mono fun _ _ e => e.elim) f3 (fun _ _ e => .inl e), hm⟩

set_option maxRecDepth 100000 in
set_option maxHeartbeats 1600000 in
theorem reset_ok {sb : Nat} {S : St} {rv : Value} {vs : List Value} {mb N : Nat} (epoch : Int) (w : World) (h : Se w sb S rv vs mb N) (h1 : 1 ≤ epoch) (h2 : epoch ≤ 2147483647) (h3 : S.epoch < epoch) (h4 : 1 ≤ S.wait) (h5 : S.wait ≤ 1000) :
    Calls Try.prog 56 #[.pointer (some ⟨sb, 0, none⟩), .int .i64 epoch] w fun e w' => e = .returned (.int .i64 0) ∧ ∃ mb', Se w' sb (fresh epoch S.wait) (.slice none 0 0) [] mb' 0 ∧ Fr (SeM sb rv mb) w w' ∧ w.heap.size ≤ mb' := by
  have hm : mayB epoch = true := by simp [mayB, h1, h2]
  have c0 : w.cell? ⟨sb, 0, none⟩ = some (.int .i64 S.epoch) := by rw [cell_at h.blk]; rfl
  have c1 : w.cell? ⟨sb, 1, none⟩ = some (.int .i64 S.wait) := by rw [cell_at h.blk]; rfl
  have H := hid h
  have HI := hid infoSes
  clear h
  go_enter Try.func56, Try.ntmps56
  go_wp2_with fail
  refine (may_c epoch _).mono ?_
  rintro e w1 ⟨rfl, rfl⟩
  rw [hm]
  go_wp2_with fail
  refine (new_c epoch S.wait _ h1 h2 h4 h5).mono ?_
  rintro e w2 ⟨nb, mb', rfl, s2, f2, n2⟩
  have HB2 := hid (H.out.keep0 f2).blk
  have S2 := hid (And.intro s2 (And.intro f2 n2))
  clear c0 c1 s2 f2 n2
  go_wp2_with (first | (refine wpList_loadRow rfl 116 (.tmp 32) rfl nb rfl 116 #[.int .i64 epoch, .int .i64 S.wait, .int .i64 1, .slice none 0 0, .int .i64 0, .int .i64 0, .map (some mb'), .bool false] (0, 0) _ S2.out.1.blk Try.underlying116 rfl HI.out ?_) | (refine wpList_storeRow rfl 116 (.tmp 34) (.tmp 33) rfl sb #[.int .i64 S.epoch, .int .i64 S.wait, .int .i64 S.first, rv, .int .i64 S.peer, .int .i64 S.have_, .map (some mb), .bool S.tell] #[.int .i64 epoch, .int .i64 S.wait, .int .i64 1, .slice none 0 0, .int .i64 0, .int .i64 0, .map (some mb'), .bool false] 116 HB2.out rfl rfl rfl HI.out (all8 _ _ _) ?_))
  intro w3 g3 f3
  have HF := hid (Se.reset H.out S2.out.1 S2.out.2.1 S2.out.2.2 g3 f3)
  clear g3 f3
  go_wp2_with fail
  go_ret
  exact ⟨rfl, mb', HF.out⟩

theorem two_reset {w0 W : World} {sa : Nat} {A : St} {NA sb : Nat} {B : St} {N_B : Nat} (epoch : Int) (h : Two w0 W sa A NA sb B N_B) (h1 : 1 ≤ epoch) (h2 : epoch ≤ 2147483647) (h3 : A.epoch < epoch) (h4 : 1 ≤ A.wait) (h5 : A.wait ≤ 1000) :
    Calls Try.prog 56 #[.pointer (some ⟨sa, 0, none⟩), .int .i64 epoch] W fun e W' => e = .returned (.int .i64 0) ∧ Two w0 W' sa (fresh epoch A.wait) 0 sb B N_B ∧ Kept W W' := by
  obtain ⟨rva, vsa, mba, rvb, vsb, mbb, k1, k2, k3, k4, k5, k6⟩ := h
  refine (reset_ok epoch W k1 h1 h2 h3 h4 h5).mono ?_
  rintro e W' ⟨rfl, mb', s, f, n⟩
  refine ⟨rfl, Two.step k1 k2 k3 k4 k5 k6 s f (fun k hk => ?_), k1.kept f⟩
  rcases hk with e | e | e
  · exact .inl (.inl e)
  · simp [Value.ownBlock] at e
  · exact .inr (by rw [e]; exact n)

theorem two_reset_lo {w0 W : World} {sa : Nat} {A : St} {NA sb : Nat} {B : St} {N_B : Nat} (epoch : Int) (h : Two w0 W sa A NA sb B N_B) (h1 : 1 ≤ epoch) (h2 : epoch ≤ 2147483647) (h3 : epoch ≤ A.epoch) :
    Calls Try.prog 56 #[.pointer (some ⟨sa, 0, none⟩), .int .i64 epoch] W fun e W' => e = .returned (.int .i64 1) ∧ W = W' := by
  obtain ⟨rva, vsa, mba, rvb, vsb, mbb, k1, _⟩ := h
  exact reset_lo epoch W k1 h1 h2 h3

/-- 'append(s, t...)' of lists. -/
theorem wpList_appLL {w : World} {ops : Array Oper} {rest : List Oper} {o : Oper} {a : Act} {Q : Exit → Act → World → Prop} (s x : Operand)
    (ho : o.op = .call { callee := .builtin .append, args := #[s, x], argTypes := #[79, 79] })
    (v y : Value) (vs us : List Value) (ls ms : List (List UInt8)) (hs : a.eval s = v) (hx : a.eval x = y) (h : Bl w v vs ls) (hy : Bl w y us ms) (hlen : ls.length + ms.length ≤ 1000000000) (hgd : Region.wanted o (yielded ops a.tmps) = true)
    (K : ∀ v' w', Bl w' v' (vs ++ us) (ls ++ ms) → Fr (fun q => v.ownBlock = some q) w w' → (∀ k, v'.ownBlock = some k → v.ownBlock = some k ∨ w.heap.size ≤ k) → wpList Try.prog ops Q rest (a.put o.dst v') w') : wpList Try.prog ops Q (o :: rest) a w := by
  obtain ⟨i0, z, hi, hz0, hzs, hz1, hz2⟩ := info_partsL
  refine wpList_appOwn hgd s x 79 79 ho 25 i0 z 1 Try.underlying79 hi hz0 hz1 hzs (by omega) v y ls.length ms.length vs us hs hx h.own (Rg.src Try.underlying79 hy.own.rg (fun u hu => ?_)) (by omega) (by rw [hz2]; omega) fun v' w' h1 h2 h3 _ => K v' w' ⟨?_, ?_⟩ (Fr.of_grown h2) h3
  · obtain ⟨i, hi', rfl⟩ := List.getElem_of_mem hu
    have hl := hy.len
    exact (hy.bs i _ _ (List.getElem?_eq_getElem hi') (List.getElem?_eq_getElem (by omega))).one
  · rw [List.length_append]; exact h1
  · have hf := Fr.of_grown h2
    have nb : NB w (fun k => v.ownBlock = some k) := h.nb
    intro i u' l' hu' hl'
    rcases Nat.lt_or_ge i ls.length with hi | hi
    · rw [List.getElem?_append_left (by rw [h.len]; exact hi)] at hu'
      rw [List.getElem?_append_left hi] at hl'
      exact (h.bs i u' l' hu' hl').keep hf nb
    · rw [List.getElem?_append_right (by rw [h.len]; exact hi), h.len] at hu'
      rw [List.getElem?_append_right hi] at hl'
      exact (hy.bs _ u' l' hu' hl').keep hf nb

/-- The block of two. -/
def TwoB (W : World) (tb sa sb : Nat) (wa wb : Value) (s0 s1 c0 c1 : Int) : Prop :=
  W.heap[tb]? = some (.cells #[.pointer (some ⟨sa, 0, none⟩), .pointer (some ⟨sb, 0, none⟩), wa, wb, .int .i64 s0, .int .i64 s1, .int .i64 c0, .int .i64 c1] 85 (0, 0))

set_option maxRecDepth 100000 in
set_option maxHeartbeats 1600000 in
theorem fresh20_c (wait : Int) (w : World) (h1 : 1 ≤ wait) (h2 : wait ≤ 1000) :
    Calls Try.prog 43 #[.int .i64 wait] w fun e w' => ∃ tb sa sb, e = .returned (.tuple #[.pointer (some ⟨tb, 0, none⟩), .bool true]) ∧ Two w w' sa (fresh 3 wait) 0 sb (fresh 8 wait) 0 ∧ TwoB w' tb sa sb (.slice none 0 0) (.slice none 0 0) 0 0 0 0 ∧ w.heap.size ≤ tb := by
  go_enter Try.func43, Try.ntmps43
  go_wp2_with fail
  refine (new_c 3 wait _ (by omega) (by omega) h1 h2).mono ?_
  rintro e w1' ⟨sa, ma, rfl, s1, f1, n1⟩
  have S1 := hid (And.intro s1 (And.intro f1 n1))
  clear s1 f1 n1
  go_wp2_with fail
  refine (new_c 8 wait _ (by omega) (by omega) h1 h2).mono ?_
  rintro e w2' ⟨sb, mb, rfl, s2, f2, n2⟩
  have T := hid (Two.made S1.out.1 S1.out.2.2 S1.out.2.1 s2 f2 n2)
  have Z := hid (Nat.le_trans S1.out.2.1.size f2.size)
  clear s2 f2 n2 S1
  go_wp2_with fail
  go_ret2
  exact ⟨_, sa, sb, rfl, T.out.keep0 ((Fr.refl _ _).alloc _), heap_alloc_last _ _, Z.out⟩

/-- A list of bytes with a row of its own. -/
def Bx (W : World) (v : Value) (ls : List (List UInt8)) : Prop := ∃ us, Bl W v us ls

theorem Bx.lt {W : World} {v : Value} {ls : List (List UInt8)} (h : Bx W v ls) : ∀ k, v.ownBlock = some k → k < W.heap.size := let ⟨_, b⟩ := h; b.own.lt
theorem Bx.kept {W W' : World} {v : Value} {ls : List (List UInt8)} (h : Bx W v ls) (k : Kept W W') : Bx W' v ls := let ⟨us, b⟩ := h; ⟨us, b.kept k⟩
theorem Bx.keep0 {W W' : World} {v : Value} {ls : List (List UInt8)} (h : Bx W v ls) (f : Fr F0 W W') : Bx W' v ls := let ⟨us, b⟩ := h; ⟨us, b.keep0 f⟩

/-- Two lists do not share a row. -/
def Apart (v y : Value) : Prop := ∀ q, v.ownBlock = some q → y.ownBlock = some q → False

theorem Apart.symm {v y : Value} (h : Apart v y) : Apart y v := fun q a b => h q b a
theorem Apart.nil (v : Value) (n c : Nat) : Apart v (.slice none n c) := fun q _ b => by simp [Value.ownBlock] at b
theorem Apart.new {W : World} {v y : Value} (hv : ∀ k, v.ownBlock = some k → k < W.heap.size) (hy : New W y) : Apart v y := fun q a b => by have := hv q a; have := hy q b; omega

theorem Bx.keepA {W W' : World} {v y : Value} {ls : List (List UInt8)} (h : Bx W v ls) (f : Fr (fun q => y.ownBlock = some q) W W') (a : Apart v y) (nb : NB W (fun q => y.ownBlock = some q)) : Bx W' v ls := let ⟨us, b⟩ := h; ⟨us, b.keep f (fun q hq e => a q hq e) nb⟩

/-- x, y, o and l. -/
structure LS (W : World) (x y o l : Value) (xs ys os ls : List (List UInt8)) : Prop where
  bx : Bx W x xs
  by_ : Bx W y ys
  bo : Bx W o os
  bl : Bx W l ls
  xy : Apart x y
  xo : Apart x o
  xl : Apart x l
  yo : Apart y o
  yl : Apart y l

theorem LS.kept {W W' : World} {x y o l : Value} {xs ys os ls : List (List UInt8)} (h : LS W x y o l xs ys os ls) (k : Kept W W') : LS W' x y o l xs ys os ls :=
  ⟨h.bx.kept k, h.by_.kept k, h.bo.kept k, h.bl.kept k, h.xy, h.xo, h.xl, h.yo, h.yl⟩

theorem LS.swap {W : World} {x y o l : Value} {xs ys os ls : List (List UInt8)} (h : LS W x y o l xs ys os ls) : LS W y x o l ys xs os ls :=
  ⟨h.by_, h.bx, h.bo, h.bl, h.xy.symm, h.yo, h.yl, h.xo, h.xl⟩

/-- y grows. -/
theorem LS.grow {W W' : World} {x y y' o l : Value} {xs ys ys' os ls : List (List UInt8)} (h : LS W x y o l xs ys os ls) (b : Bx W' y' ys') (f : Fr (fun q => y.ownBlock = some q) W W') (e : ∀ q, y'.ownBlock = some q → y.ownBlock = some q ∨ W.heap.size ≤ q) : LS W' x y' o l xs ys' os ls := by
  have nb : NB W (fun q => y.ownBlock = some q) := let ⟨_, b⟩ := h.by_; b.nb
  have go : ∀ {z : Value} {zs : List (List UInt8)}, Bx W z zs → Apart z y → Apart z y' := fun bz a q hq hy => (e q hy).elim (a q hq) (fun e => by have := bz.lt q hq; omega)
  exact ⟨h.bx.keepA f h.xy nb, b, h.bo.keepA f h.yo.symm nb, h.bl.keepA f h.yl.symm nb, go h.bx h.xy, h.xo, h.xl, (go h.bo h.yo.symm).symm, (go h.bl h.yl.symm).symm⟩

/-- Another l. -/
theorem LS.other {W W' : World} {x y o l l' : Value} {xs ys os ls ls' : List (List UInt8)} (h : LS W x y o l xs ys os ls) (k : Kept W W') (b : Bx W' l' ls') (n : New W l') : LS W' x y o l' xs ys os ls' :=
  ⟨h.bx.kept k, h.by_.kept k, h.bo.kept k, b, h.xy, h.xo, Apart.new h.bx.lt n, h.yo, Apart.new h.by_.lt n⟩

/-- y is begun anew. -/
theorem LS.anew {W : World} {x y o l : Value} {xs ys os ls : List (List UInt8)} (h : LS W x y o l xs ys os ls) : LS W x (.slice none 0 0) o l xs [] os ls :=
  ⟨h.bx, ⟨[], Bl.nil W⟩, h.bo, h.bl, Apart.nil _ _ _, h.xo, h.xl, (Apart.nil _ _ _).symm, (Apart.nil _ _ _).symm⟩

theorem Two.early {w0 W : World} {sa : Nat} {A : St} {NA sb : Nat} {B : St} {N_B : Nat} (h : Two w0 W sa A NA sb B N_B) : A.early.length ≤ NA := by
  obtain ⟨rva, vsa, mba, rvb, vsb, mbb, h1, _⟩ := h
  obtain ⟨D, n, _, hle, _⟩ := h1.em
  exact hle.2

theorem Two.fr {w0 W : World} {sa : Nat} {A : St} {NA sb : Nat} {B : St} {N_B : Nat} (h : Two w0 W sa A NA sb B N_B) : Fr F0 w0 W := by
  obtain ⟨rva, vsa, mba, rvb, vsb, mbb, h1, h2, h3, h4, h5, h6⟩ := h
  exact h6

theorem rdTwo (w : World) (c : UInt8) (k : Nat) (h : k < 256) : Rd (w.alloc (.cells #[.int .u8 c.toNat, .int .u8 (k : Int)] 5)) (.slice (some ⟨w.heap.size, 0, none⟩) 2 2) [c, UInt8.ofNat k] := by
  refine ⟨rfl, _, 2, rfl, Nat.le_refl _, by simp [maxLen], (fun h => by cases h), fun _ => ⟨w.heap.size, 0, rfl, by simp, fun j hj => ?_⟩⟩
  rw [cell_at (heap_alloc_last _ _)]
  match j, hj with
  | 0, _ => rfl
  | 1, _ => simp [b8]; omega
  | j + 2, hj => exact absurd (show j + 2 < 2 by simpa using hj) (by omega)

set_option maxRecDepth 100000 in
theorem round_nn (k n : Nat) (w : World) (hn : 0 < n) (hk : k ≤ 1000000000) (hn2 : n ≤ 1000000000) :
    Calls Try.prog 22 #[.int .i64 (k : Int), .int .i64 (n : Int)] w fun e w' => e = .returned (.int .i64 ((k % n : Nat) : Int)) ∧ w = w' := by
  have h0 : ((n : Int) == 0) = false := by simp; omega
  have h1 : 0 ≤ (k : Int) % (n : Int) := Int.emod_nonneg _ (by omega)
  have h2 : (0 : Int) < n := by omega
  go_enter Try.func22, Try.ntmps22
  go_wp2_with fail
  go_ret
  exact ⟨by simp, rfl⟩

end Go.Proofs.Ytfalaopljodmnaa
