/- session: what a Session is. -/
import Derived.Test.YtfalaopljodmnaaSesB
import Derived.Maps.OwnSet
namespace Go.Proofs.Ytfalaopljodmnaa
open Go.RowKit Go.Maps
open Go.ChangeMaps (setBlock heap_setBlock_other)

/-- A message that waits. -/
structure Msg where
  b : List UInt8
  sent : Bool
  at_ : Int

/-- A session. -/
structure St where
  epoch : Int
  wait : Int
  first : Int
  l : List Msg
  peer : Int
  have_ : Int
  early : List (Int × List UInt8)
  tell : Bool

/-- The cells of messages. -/
def mcells : List (Value × Msg) → List Value
  | [] => []
  | (v, m) :: r => v :: .bool m.sent :: .int .i64 m.at_ :: mcells r

theorem mcells_len : ∀ l : List (Value × Msg), (mcells l).length = l.length * 3
  | [] => rfl
  | (v, m) :: r => by simp [mcells, mcells_len r]; omega

theorem mcells_app : ∀ a b : List (Value × Msg), mcells (a ++ b) = mcells a ++ mcells b
  | [], _ => rfl
  | (v, m) :: r, b => by simp [mcells, mcells_app r b]

theorem mcells_drop : ∀ (n : Nat) (l : List (Value × Msg)), mcells (l.drop n) = (mcells l).drop (n * 3)
  | 0, _ => by simp
  | n + 1, [] => by simp [mcells]
  | n + 1, (v, m) :: r => by
    rw [show (n + 1) * 3 = n * 3 + 3 from by omega]
    simp only [List.drop_succ_cons, mcells]
    exact mcells_drop n r

theorem mcells_get : ∀ (l : List (Value × Msg)) (i : Nat) (v : Value) (m : Msg), l[i]? = some (v, m) → (mcells l)[i * 3]? = some v ∧ (mcells l)[i * 3 + 1]? = some (.bool m.sent) ∧ (mcells l)[i * 3 + 2]? = some (.int .i64 m.at_)
  | [], i, v, m, h => by simp at h
  | (v', m') :: r, 0, v, m, h => by cases h; exact ⟨rfl, rfl, rfl⟩
  | (v', m') :: r, i + 1, v, m, h => by
    have := mcells_get r i v m (by simpa using h)
    rw [show (i + 1) * 3 = i * 3 + 3 from by omega, show i * 3 + 3 + 1 = i * 3 + 1 + 3 from by omega, show i * 3 + 3 + 2 = i * 3 + 2 + 3 from by omega]
    simpa [mcells] using this

/-- An element of a map, as it is. -/
def rawE : Value → Option (DataW Value × List MemPlace) := fun v => some (.held v, [])

/-- What stands at a key. -/
def eget (E : List (Int × List UInt8)) (k : Int) : Option (List UInt8) := (E.find? (fun p => p.1 == k)).map (·.2)
def edel (E : List (Int × List UInt8)) (k : Int) : List (Int × List UInt8) := E.filter (fun p => !(p.1 == k))
def eput (E : List (Int × List UInt8)) (k : Int) (l : List UInt8) : List (Int × List UInt8) := (k, l) :: edel E k

/-- Block mb is a map of bytes, E, of N entries at most. -/
def EM (W : World) (mb : Nat) (E : List (Int × List UInt8)) (N : Nat) : Prop := ∃ D n, W.ownsMap Try.prog 3 rawE mb n D ∧ (n ≤ N ∧ E.length ≤ N) ∧
  ∀ k : Int, (Lit.int .i64 k).wf = true → match eget E k with
    | none => Maps.has D (.int .i64 k) = false
    | some l => Maps.has D (.int .i64 k) = true ∧ ∃ v, D.atKey (.int .i64 k) (.held (.slice none 0 0)) = .held v ∧ Rt W v l

/-- Block sb is the session S. -/
structure Se (W : World) (sb : Nat) (S : St) (rv : Value) (vs : List Value) (mb N : Nat) : Prop where
  blk : W.heap[sb]? = some (.cells #[.int .i64 S.epoch, .int .i64 S.wait, .int .i64 S.first, rv, .int .i64 S.peer, .int .i64 S.have_, .map (some mb), .bool S.tell] 116 (0, 0))
  len : vs.length = S.l.length
  row : Own W 118 3 rv S.l.length (mcells (vs.zip S.l))
  bs : ∀ (i : Nat) v m, (vs.zip S.l)[i]? = some (v, m) → Rt W v m.b ∧ m.b.length ≤ 40000
  em : EM W mb S.early N
  ap : rv.ownBlock ≠ some sb

/-- What is its own. -/
def SeM (sb : Nat) (rv : Value) (mb : Nat) : Nat → Prop := fun k => k = sb ∨ rv.ownBlock = some k ∨ k = mb

/-- No blocks of bytes. -/
def NB (W : World) (S : Nat → Prop) : Prop := ∀ q cs fz, S q → W.heap[q]? = some (.cells cs 5 fz) → False

theorem Own.tag {W : World} {e size : Nat} {v : Value} {n : Nat} {xs : List Value} (h : Own W e size v n xs) : ∀ q, v.ownBlock = some q → ∃ cs f, W.heap[q]? = some (.cells cs e f) := by
  rcases h.2 with ⟨rfl, _⟩ | ⟨g, o, c, cur, f, rfl, _, _, h3, _⟩
  · intro q hq; simp [Value.ownBlock] at hq
  · intro q hq
    simp [Value.ownBlock] at hq
    subst hq
    exact ⟨cur, f, h3⟩

theorem Se.nb {W : World} {sb : Nat} {S : St} {rv : Value} {vs : List Value} {mb N : Nat} (h : Se W sb S rv vs mb N) : NB W (SeM sb rv mb) := by
  intro q cs fz hq hc
  rcases hq with rfl | hq | rfl
  · rw [h.blk] at hc; injection hc with hc; injection hc with _ hc; exact absurd hc (by decide)
  · obtain ⟨cs', f', h'⟩ := h.row.tag q hq
    rw [h'] at hc; injection hc with hc; injection hc with _ hc; exact absurd hc (by decide)
  · obtain ⟨D, n, ⟨es, clock, hb, _⟩, _⟩ := h.em
    rw [hb] at hc; cases hc

theorem EM.keep {F : Nat → Prop} {W W' : World} {mb : Nat} {E : List (Int × List UInt8)} {N : Nat} (h : EM W mb E N) (f : Fr F W W') (hm : ¬ F mb) (nb : NB W F) : EM W' mb E N := by
  obtain ⟨D, n, ⟨es, clock, hb, h1, h2, h3⟩, hn, hk⟩ := h
  refine ⟨D, n, ⟨es, clock, f.heap hb hm, h1, h2, h3⟩, hn, fun k hw => ?_⟩
  have := hk k hw
  cases he : eget E k with
  | none => rw [he] at this; exact this
  | some l =>
    rw [he] at this
    obtain ⟨g1, v, g2, g3⟩ := this
    exact ⟨g1, v, g2, g3.keep f nb⟩

/-- What is done elsewhere. -/
theorem Se.keep {F : Nat → Prop} {W W' : World} {sb : Nat} {S : St} {rv : Value} {vs : List Value} {mb N : Nat} (h : Se W sb S rv vs mb N) (f : Fr F W W') (hF : ∀ k, SeM sb rv mb k → ¬ F k) (nb : NB W F) : Se W' sb S rv vs mb N where
  blk := f.heap h.blk (hF sb (.inl rfl))
  len := h.len
  row := h.row.keep f (fun k hk => hF k (.inr (.inl hk)))
  bs := fun i v m hi => ⟨(h.bs i v m hi).1.keep f nb, (h.bs i v m hi).2⟩
  em := h.em.keep f (hF mb (.inr (.inr rfl))) nb
  ap := h.ap

theorem NB.F0 (W : World) : NB W F0 := fun _ _ _ h _ => h

theorem Se.keep0 {W W' : World} {sb : Nat} {S : St} {rv : Value} {vs : List Value} {mb N : Nat} (h : Se W sb S rv vs mb N) (f : Fr F0 W W') : Se W' sb S rv vs mb N := h.keep f (fun _ _ e => e) (NB.F0 W)

theorem eget_del (E : List (Int × List UInt8)) (k k' : Int) : eget (edel E k) k' = if k = k' then none else eget E k' := by
  unfold eget edel
  rw [List.find?_filter]
  by_cases h : k = k'
  · subst h
    rw [if_pos rfl]
    have : (fun p : Int × List UInt8 => decide (((!p.1 == k) = true) ∧ ((p.1 == k) = true))) = fun _ => false := by
      funext p; by_cases e : p.1 = k <;> simp [e]
    rw [this]; simp
  · rw [if_neg h]
    have : (fun p : Int × List UInt8 => decide (((!p.1 == k) = true) ∧ ((p.1 == k') = true))) = fun p => p.1 == k' := by
      funext p
      by_cases e : p.1 = k'
      · simp [e]; exact fun e' => h e'.symm
      · simp [e]
    rw [this]

theorem eget_put (E : List (Int × List UInt8)) (k k' : Int) (l : List UInt8) : eget (eput E k l) k' = if k = k' then some l else eget E k' := by
  by_cases h : k = k'
  · subst h
    simp [eget, eput]
  · have := eget_del E k k'
    rw [if_neg h] at this ⊢
    rw [← this]
    simp [eget, eput, h]

theorem eput_len (E : List (Int × List UInt8)) (k : Int) (l : List UInt8) : (eput E k l).length ≤ E.length + 1 := by
  simp [eput]; exact List.length_filter_le _ _

theorem zero25 (w : World) : (zeroValue 25).run Try.prog w = .ok (.slice none 0 0) w := by kernel_rfl

set_option maxRecDepth 100000 in
theorem EM.look {W : World} {mb N : Nat} {E : List (Int × List UInt8)} (h : EM W mb E N) (k : Int) (hk : (Lit.int .i64 k).wf = true) :
    ∃ v, (Instr.lookup 114 (.map (some mb)) (.int .i64 k) true).run Try.prog W = .ok (.tuple #[v, .bool (eget E k).isSome]) W ∧ (∀ l, eget E k = some l → Rt W v l) := by
  obtain ⟨D, n, ho, hn, hE⟩ := h
  obtain ⟨v, ps, hrun, hv⟩ := ho.look_ok (int_keyed Try.underlying3) Try.underlying114 (zero25 W) (zd := .held (.slice none 0 0)) (zp := []) rfl (keyOf_int_mk Try.underlying3 hk)
  have hat : D.atKey (.int .i64 k) (.held (.slice none 0 0)) = .held v := by
    have : some ((DataW.held v : DataW Value), ([] : List MemPlace)) = some (D.atKey (.int .i64 k) (.held (.slice none 0 0)), ps) := hv
    injection this with this
    exact (congrArg Prod.fst this).symm
  have := hE k hk
  refine ⟨v, ?_, fun l hl => ?_⟩
  · cases he : eget E k with
    | none => rw [he] at this; rw [this] at hrun; exact hrun
    | some l => rw [he] at this; rw [this.1] at hrun; exact hrun
  · rw [hl] at this
    obtain ⟨_, v', h1, h2⟩ := this
    rw [hat] at h1
    cases h1
    exact h2

theorem turned_fr {W W' : World} {mb : Nat} (h : W.mapTurned W' mb) : Fr (fun q => q = mb) W W' := by
  obtain ⟨es, clock, es', clock', hb, rfl⟩ := h
  exact ⟨rfl, rfl, rfl, by simp [setBlock], fun k _ hk => heap_setBlock_other hb _ hk⟩

theorem EM.nb {W : World} {mb N : Nat} {E : List (Int × List UInt8)} (h : EM W mb E N) : NB W (fun q => q = mb) := by
  intro q cs fz hq hc
  subst hq
  obtain ⟨D, n, ⟨es, clock, hb, _⟩, _⟩ := h
  rw [hb] at hc; cases hc

theorem keyLit (k : Int) : WideAt.IsKeyLit (.int .i64 k) := by trivial

theorem lit_ne {k k' : Int} (h : ¬ k = k') : (Lit.int .i64 k') ≠ .int .i64 k := fun e => h (by injection e with _ e; exact e.symm)

set_option maxRecDepth 100000 in
theorem EM.store {W : World} {mb N : Nat} {E : List (Int × List UInt8)} (h : EM W mb E N) (k : Int) (hk : (Lit.int .i64 k).wf = true) (v : Value) (l : List UInt8) (hr : Rt W v l) (hN : N < 1000000000) :
    ∃ W', (Instr.mapUpdate 114 (.map (some mb)) (.int .i64 k) v).run Try.prog W = .ok () W' ∧ EM W' mb (eput E k l) (N + 1) ∧ Fr (fun q => q = mb) W W' := by
  have nb := h.nb
  obtain ⟨D, n, ho, hn, hE⟩ := h
  obtain ⟨W', hrun, h1, h2⟩ := ho.store (int_keyed Try.underlying3) Try.underlying114 (by unfold maxLen; omega) (val := v) (d := .held v) (ps := []) (keyOf_int_mk Try.underlying3 hk) rfl
  have f := turned_fr h2
  refine ⟨W', hrun, ⟨_, _, h1, ⟨by omega, Nat.le_trans (eput_len E k l) (by omega)⟩, fun k' hk' => ?_⟩, f⟩
  rw [eget_put]
  by_cases e : k = k'
  · subst e
    rw [if_pos rfl]
    exact ⟨has_put_same ho.isMap (keyLit k) _, v, atKey_put_same ho.isMap (keyLit k) _ _, hr.keep f nb⟩
  · rw [if_neg e]
    have := hE k' hk'
    cases he : eget E k' with
    | none => rw [he] at this; dsimp only; rw [has_put_other (lit_ne e)]; exact this
    | some m =>
      rw [he] at this
      obtain ⟨g1, u, g2, g3⟩ := this
      exact ⟨by rw [has_put_other (lit_ne e)]; exact g1, u, by rw [atKey_put_other (lit_ne e)]; exact g2, g3.keep f nb⟩

set_option maxRecDepth 100000 in
theorem EM.drop {W : World} {mb N : Nat} {E : List (Int × List UInt8)} (h : EM W mb E N) (k : Int) (hk : (Lit.int .i64 k).wf = true) (ty : TypeId) :
    ∃ W', (Builtin.delete_ #[114, 3] ty #[.map (some mb), .int .i64 k]).run Try.prog W = .ok (.tuple #[]) W' ∧ EM W' mb (edel E k) N ∧ Fr (fun q => q = mb) W W' := by
  have nb := h.nb
  obtain ⟨D, n, ho, hn, hE⟩ := h
  obtain ⟨W', hrun, h1, h2⟩ := ho.drop (int_keyed Try.underlying3) Try.underlying114 (keyOf_int_mk Try.underlying3 hk) ty
  have f := turned_fr h2
  refine ⟨W', hrun, ⟨_, _, h1, ⟨hn.1, Nat.le_trans (List.length_filter_le _ _) hn.2⟩, fun k' hk' => ?_⟩, f⟩
  rw [eget_del]
  by_cases e : k = k'
  · subst e
    rw [if_pos rfl]
    exact has_del_same
  · rw [if_neg e]
    have := hE k' hk'
    cases he : eget E k' with
    | none => rw [he] at this; dsimp only; rw [has_del_other (lit_ne e)]; exact this
    | some m =>
      rw [he] at this
      obtain ⟨g1, u, g2, g3⟩ := this
      exact ⟨by rw [has_del_other (lit_ne e)]; exact g1, u, by rw [atKey_del_other (lit_ne e)]; exact g2, g3.keep f nb⟩

/-- 'm[k] = v'. -/
theorem wpList_emPut {W : World} {ops : Array Oper} {rest : List Oper} {o : Oper} {a : Act} {Q : Exit → Act → World → Prop} (m x y : Operand) (ho : o.op = .mapUpdate 114 m x y) {mb N : Nat} {E : List (Int × List UInt8)} (k : Int) (v : Value) (l : List UInt8)
    (hm : a.eval m = .map (some mb)) (hx : a.eval x = .int .i64 k) (hy : a.eval y = v) (h : EM W mb E N) (hk : (Lit.int .i64 k).wf = true) (hr : Rt W v l) (hN : N < 1000000000) (hgd : Region.wanted o (yielded ops a.tmps) = true)
    (hK : ∀ W', EM W' mb (eput E k l) (N + 1) → Fr (fun q => q = mb) W W' → wpList Try.prog ops Q rest (a.put o.dst undef) W') : wpList Try.prog ops Q (o :: rest) a W := by
  refine wpList_want hgd fun K' hK' => ?_
  obtain ⟨W', hrun, h1, h2⟩ := h.store k hk v l hr hN
  unfold Oper.wp
  simp [execOp, ho, hm, hx, hy, hrun, Result.andThen]
  exact hK' _ _ (hK W' h1 h2)

/-- 'delete(m, k)'. -/
theorem wpList_emDel {W : World} {ops : Array Oper} {rest : List Oper} {o : Oper} {a : Act} {Q : Exit → Act → World → Prop} (m x : Operand) (ho : o.op = .call { callee := .builtin .delete, args := #[m, x], argTypes := #[114, 3] }) {mb N : Nat} {E : List (Int × List UInt8)} (k : Int)
    (hm : a.eval m = .map (some mb)) (hx : a.eval x = .int .i64 k) (h : EM W mb E N) (hk : (Lit.int .i64 k).wf = true) (hgd : Region.wanted o (yielded ops a.tmps) = true)
    (hK : ∀ W', EM W' mb (edel E k) N → Fr (fun q => q = mb) W W' → wpList Try.prog ops Q rest (a.put o.dst (.tuple #[])) W') : wpList Try.prog ops Q (o :: rest) a W := by
  refine wpList_want hgd fun K' hK' => ?_
  obtain ⟨W', hrun, h1, h2⟩ := h.drop k hk o.type
  unfold Oper.wp
  simp [execOp, ho, resolve, invoke, builtin, hm, hx, hrun, Result.andThen]
  exact hK' _ _ (hK W' h1 h2)

end Go.Proofs.Ytfalaopljodmnaa
