/- session: Send. -/
import Derived.Test.YtfalaopljodmnaaSesF
namespace Go.Proofs.Ytfalaopljodmnaa
open Go.RowKit Go.Maps

theorem infoM : (Try.prog.info? 118).map (fun i => (i.zero.map (·.cells.size), i.size, i.bytes)) = some (some 3, 3, 40) := by kernel_rfl

theorem info_partsM : ∃ (i0 : TypeInfo) (z : Value), Try.prog.info? 118 = some i0 ∧ i0.zero = some z ∧ z.cells.size = 3 ∧ i0.size = 3 ∧ i0.bytes = 40 := by
  have h := infoM
  cases hi : Try.prog.info? 118 with
  | none => rw [hi] at h; cases h
  | some i =>
    rw [hi] at h
    simp only [Option.map_some, Option.some.injEq, Prod.mk.injEq] at h
    cases hz : i.zero with
    | none => rw [hz] at h; simp at h
    | some z => rw [hz] at h; simp at h; exact ⟨i, z, rfl, hz, h.1, h.2.1, h.2.2⟩

/-- 'append(s, m)' of messages. -/
theorem wpList_appM {w : World} {ops : Array Oper} {rest : List Oper} {o : Oper} {a : Act} {Q : Exit → Act → World → Prop} (s x : Operand)
    (ho : o.op = .call { callee := .builtin .append, args := #[s, x], argTypes := #[113, 113] })
    (v xv : Value) (n : Nat) (xs news : List Value) (hs : a.eval s = v) (hx : a.eval x = xv) (hown : Own w 118 3 v n xs) (hr : Rg w 3 xv 1 news) (h1 : ∀ u ∈ news, u.oneCell' = true) (hlen : n ≤ 1000000) (hgd : Region.wanted o (yielded ops a.tmps) = true)
    (h : ∀ v' w', Own w' 118 3 v' (n + 1) (xs ++ news) → w.grownBy w' v.ownBlock → (∀ k, v'.ownBlock = some k → v.ownBlock = some k ∨ w.heap.size ≤ k) → wpList Try.prog ops Q rest (a.put o.dst v') w') : wpList Try.prog ops Q (o :: rest) a w := by
  obtain ⟨i0, z, hi, hz0, hzs, hz1, hz2⟩ := info_partsM
  exact wpList_appOwn hgd s x 113 113 ho 118 i0 z 3 Try.underlying113 hi hz0 hz1 hzs (by omega) v xv n 1 xs news hs hx hown (Rg.src Try.underlying113 hr h1) (by omega) (by rw [hz2]; omega) fun v' w' h1 h2 h3 _ => h v' w' h1 h2 h3

theorem Rg.one3 (w : World) (a b c : Value) (e : Nat) : Rg (w.alloc (.cells #[a, b, c] e)) 3 (.slice (some ⟨w.heap.size, 0, none⟩) 1 1) 1 [a, b, c] := by
  refine ⟨rfl, _, 1, rfl, Nat.le_refl _, by simp [maxLen], (fun h => by cases h), fun _ => ⟨w.heap.size, 0, rfl, by simp, fun j hj => ?_⟩⟩
  rw [cell_at (heap_alloc_last _ _)]
  match j, hj with
  | 0, _ => rfl
  | 1, _ => rfl
  | 2, _ => rfl
  | j + 3, hj => exact absurd (show j + 3 < 3 by simpa using hj) (by omega)

theorem Rg.keep0 {w w' : World} {size : Nat} {v : Value} {n : Nat} {xs : List Value} (h : Rg w size v n xs) (f : Fr F0 w w') : Rg w' size v n xs := h.keep f (fun _ _ e => e)

theorem Se.c3 {W : World} {sb : Nat} {S : St} {rv : Value} {vs : List Value} {mb N : Nat} (h : Se W sb S rv vs mb N) : W.cell? ⟨sb, 3, none⟩ = some rv := by rw [cell_at h.blk]; rfl
theorem Se.fz {W : World} {sb : Nat} {S : St} {rv : Value} {vs : List Value} {mb N : Nat} (h : Se W sb S rv vs mb N) (i : Nat) : W.frozen? ⟨sb, i, none⟩ = false := frozen_at h.blk i
theorem Se.form {W : World} {sb : Nat} {S : St} {rv : Value} {vs : List Value} {mb N : Nat} (h : Se W sb S rv vs mb N) : ∃ ao c, rv = .slice ao S.l.length c := by
  obtain ⟨ao, c, e, _⟩ := h.row.rg.form
  exact ⟨ao, c, e⟩

theorem Se.sep {W : World} {sb : Nat} {S : St} {rv : Value} {vs : List Value} {mb N : Nat} (h : Se W sb S rv vs mb N) : mb ≠ sb ∧ rv.ownBlock ≠ some mb := by
  obtain ⟨D, n, ⟨es, clock, hb, _⟩, _⟩ := h.em
  refine ⟨fun e => ?_, fun e => ?_⟩
  · rw [e, h.blk] at hb; cases hb
  · obtain ⟨cs, f, hr⟩ := h.row.tag mb e
    rw [hr] at hb; cases hb

theorem Se.lt {W : World} {sb : Nat} {S : St} {rv : Value} {vs : List Value} {mb N : Nat} (h : Se W sb S rv vs mb N) : ∀ k, SeM sb rv mb k → k < W.heap.size := by
  intro k hk
  rcases hk with rfl | hk | rfl
  · exact lt_of_heap h.blk
  · exact h.row.lt k hk
  · obtain ⟨D, n, ⟨es, clock, hb, _⟩, _⟩ := h.em
    exact lt_of_heap hb

/-- A message is behind the others. -/
theorem Se.sent {w w1 w2 : World} {sb : Nat} {S : St} {rv rv2 v1 : Value} {vs : List Value} {mb N : Nat} {b : List UInt8} {o : Obj} (h : Se w sb S rv vs mb N) (f1 : Fr F0 w w1) (f2 : Fr (fun k => rv.ownBlock = some k) (w1.alloc o) w2)
    (hb : w2.heap[sb]? = w.heap[sb]?) (o2 : Own w2 118 3 rv2 (S.l.length + 1) (mcells (vs.zip S.l) ++ [v1, .bool false, .int .i64 0])) (o1 : Rt w1 v1 b) (hl : b.length ≤ 40000)
    (e2 : ∀ k, rv2.ownBlock = some k → rv.ownBlock = some k ∨ w1.heap.size + 1 ≤ k) :
    Se (w2.setCell ⟨sb, 3, none⟩ rv2) sb { S with l := S.l ++ [⟨b, false, 0⟩] } rv2 (vs ++ [v1]) mb N ∧ Fr (SeM sb rv mb) w (w2.setCell ⟨sb, 3, none⟩ rv2) ∧ (∀ k, rv2.ownBlock = some k → rv.ownBlock = some k ∨ w.heap.size ≤ k) := by
  have h1 := h.keep0 f1
  have f12 : Fr (fun k => rv.ownBlock = some k) w1 w2 := Fr.trans ((Fr.refl (fun k => rv.ownBlock = some k) w1).alloc o) f2 (fun _ _ e => e)
  have f23 := (Fr.refl (fun k => k = sb) w2).setCell (p := ⟨sb, 3, none⟩) (fun _ => rfl) rv2
  have f13 : Fr (fun k => k = sb ∨ rv.ownBlock = some k) w1 (w2.setCell ⟨sb, 3, none⟩ rv2) := Fr.trans (f12.mono fun _ _ e => .inr e) f23 (fun _ _ e => .inl e)
  have nb : NB w1 (fun k => k = sb ∨ rv.ownBlock = some k) := fun q cs fz hq hc => h1.nb q cs fz (hq.elim (fun e => .inl e) (fun e => .inr (.inl e))) hc
  have sep := h.sep
  have hs : sb < w1.heap.size := h1.lt sb (.inl rfl)
  have hne : ∀ k, rv2.ownBlock = some k → ¬ k = sb := fun k hk e => (e2 k hk).elim (fun e' => h.ap (e ▸ e')) (fun e' => by omega)
  have hz : vs.length = S.l.length := h.len
  refine ⟨⟨heap_setCell (hb.trans h.blk) 3 rv2, by simp [hz], ?_, ?_, h1.em.keep f13 (fun e => e.elim sep.1 sep.2) nb, fun e => hne sb e rfl⟩, ?_, fun k hk => (e2 k hk).imp id (fun e => Nat.le_trans f1.size (by omega))⟩
  · have he : mcells ((vs ++ [v1]).zip (S.l ++ [⟨b, false, 0⟩])) = mcells (vs.zip S.l) ++ [v1, .bool false, .int .i64 0] := by
      rw [List.zip_append hz, mcells_app]; rfl
    have := o2.keep f23 (fun k hk => hne k hk)
    rw [← he] at this
    simpa using this
  · intro i v m hi
    rw [List.zip_append hz] at hi
    rcases Nat.lt_or_ge i (vs.zip S.l).length with hlt | hge
    · rw [List.getElem?_append_left hlt] at hi
      exact ⟨(h1.bs i v m hi).1.keep f13 nb, (h1.bs i v m hi).2⟩
    · rw [List.getElem?_append_right hge] at hi
      have : i - (vs.zip S.l).length = 0 := by
        have := (List.getElem?_eq_some_iff.1 hi).1
        simp only [List.zip_cons_cons, List.zip_nil_right, List.length_cons, List.length_nil] at this; omega
      rw [this] at hi
      simp at hi
      obtain ⟨rfl, rfl⟩ := hi
      exact ⟨o1.keep f13 nb, hl⟩
  · exact Fr.trans (f1.mono fun _ _ e => e.elim) f13 (fun k hk e => e.elim (fun e => .inl e) (fun e => .inr (.inl e)))

set_option maxRecDepth 100000 in
set_option maxHeartbeats 1600000 in
theorem send_c (sb : Nat) (S : St) (rv : Value) (vs : List Value) (mb N : Nat) (x : Value) (b : List UInt8) (w : World) (h : Se w sb S rv vs mb N) (hr : Rd w x b) (hb : b.length ≤ 40000) (hl : S.l.length < 200) :
    Calls Try.prog 44 #[.pointer (some ⟨sb, 0, none⟩), x] w fun e w' => e = .returned (.int .i64 0) ∧ ∃ rv' v', Se w' sb { S with l := S.l ++ [⟨b, false, 0⟩] } rv' (vs ++ [v']) mb N ∧ Fr (SeM sb rv mb) w w' ∧ (∀ k, rv'.ownBlock = some k → rv.ownBlock = some k ∨ w.heap.size ≤ k) := by
  obtain ⟨ao, c, rfl⟩ := h.form
  obtain ⟨xa, xc, rfl, _⟩ := hr.form
  have H := hid h
  have HR := hid hr
  obtain ⟨n, HN⟩ : ∃ n, Hid (S.l.length = n) := ⟨_, hid rfl⟩
  obtain ⟨nb, HNB⟩ : ∃ n, Hid (b.length = n) := ⟨_, hid rfl⟩
  have c3 := h.c3
  have hlen : (n : Int) < 200 := by have := HN.out; omega
  rw [HN.out] at c3 H ⊢
  rw [HNB.out] at HR hb ⊢
  have hb' : (nb : Int) ≤ 40000 := by omega
  have HL := hid hl
  have HLB : Hid (b.length ≤ 40000) := hid (by rw [HNB.out]; exact hb)
  clear h hr hl hb
  go_enter Try.func44, Try.ntmps44
  go_wp2_with fail
  clear c3
  refine pz_start [12] (fun w' => w'.heap[sb]? = w.heap[sb]?) (by kernel_rfl) ?_
  have hS0 : w.drew.heap[sb]? = w.heap[sb]? := rfl
  have q3 : ∀ w' : World, w'.heap[sb]? = w.heap[sb]? → w'.cell? ⟨sb, 3, none⟩ = some (.slice ao n c) := fun w' f => by rw [World.cell?_of_block (w := w) f]; exact H.out.c3
  refine pz_take 0 (v := ?_) [[0]] rfl (by kernel_rfl) (by kernel_rfl) (by kernel_rfl) (by kernel_rfl) (fun _ _ _ h => h) (by rfl) hS0 (fun w' hS' => ?_) ?_
  rotate_left
  · (try dsimp only at hS'); go_simp
    try with_reducible rfl
  simp only [Act.put, List.setIfInBounds_toArray, List.set_cons_zero, List.set_cons_succ]
  refine pz_take 1 (v := ?_) [[1]] rfl (by kernel_rfl) (by kernel_rfl) (by kernel_rfl) (by kernel_rfl) (fun _ _ _ h => h) (by rfl) hS0 (fun w' hS' => ?_) ?_
  rotate_left
  · (try dsimp only at hS'); go_simp
    try with_reducible rfl
  simp only [Act.put, List.setIfInBounds_toArray, List.set_cons_zero, List.set_cons_succ]
  refine pz_take 5 (v := ?_) [[5]] rfl (by kernel_rfl) (by kernel_rfl) (by kernel_rfl) (by kernel_rfl) (fun _ _ _ h => h) (by rfl) hS0 (fun w' hS' => ?_) ?_
  rotate_left
  · (try dsimp only at hS'); go_simp
    try with_reducible rfl
  simp only [Act.put, List.setIfInBounds_toArray, List.set_cons_zero, List.set_cons_succ]
  refine pz_take 2 (v := ?_) [[2]] rfl (by kernel_rfl) (by kernel_rfl) (by kernel_rfl) (by kernel_rfl) (fun _ _ _ h => h) (by rfl) hS0 (fun w' hS' => ?_) ?_
  rotate_left
  · (try dsimp only at hS'); go_simp
    try with_reducible rfl
  simp only [Act.put, List.setIfInBounds_toArray, List.set_cons_zero, List.set_cons_succ]
  refine pz_take 3 (v := ?_) [[3]] rfl (by kernel_rfl) (by kernel_rfl) (by kernel_rfl) (by kernel_rfl) (fun _ _ _ h => h) (by rfl) hS0 (fun w' hS' => ?_) ?_
  rotate_left
  · (try dsimp only at hS'); go_simp
    try with_reducible rfl
  simp only [Act.put, List.setIfInBounds_toArray, List.set_cons_zero, List.set_cons_succ]
  refine pz_take 4 (v := ?_) [[4]] rfl (by kernel_rfl) (by kernel_rfl) (by kernel_rfl) (by kernel_rfl) (fun _ _ _ h => h) (by rfl) hS0 (fun w' hS' => ?_) ?_
  rotate_left
  · (try dsimp only at hS'); go_simp
    try with_reducible rfl
  simp only [Act.put, List.setIfInBounds_toArray, List.set_cons_zero, List.set_cons_succ]
  clear hS0 q3
  refine pz_step 6 rfl (by kernel_rfl) (fun K hK => ?_)
  go_wp2_with fail
  refine (clone_c _ b _ (HR.out.keep0 (Fr.refl F0 w).drew) (by rw [HNB.out]; omega)).mono ?_
  rintro e w1 ⟨v1, rfl, o1, f1, n1, _⟩
  obtain ⟨a1, m1, c1, rfl⟩ := o1.form
  have F1 := hid (F0.and (Fr.refl F0 w).drew f1)
  have O1 := hid (Rt.of_ob o1)
  have B1 := hid (fun k hk => Nat.le_trans (Fr.refl F0 w).drew.size (n1 k hk) : New w (.slice a1 m1 c1))
  clear o1 f1 n1
  have HS1 : Hid (w1.heap[sb]? = w.heap[sb]?) := hid (F1.out.block sb (lt_of_heap H.out.blk) (fun e => e))
  go_wp2_with fail
  have hS1 := HS1.out
  refine hK _ _ _ (fun _ h => h) hS1 ?_
  clear hK K
  refine pz_take 7 (v := ?_) [[7]] rfl (by kernel_rfl) (by kernel_rfl) (by kernel_rfl) (by kernel_rfl) (fun _ _ _ h => h) (by rfl) hS1 (fun w' hS' => ?_) ?_
  rotate_left
  · (try dsimp only at hS'); go_simp
    try with_reducible rfl
  simp only [Act.put, List.setIfInBounds_toArray, List.set_cons_zero, List.set_cons_succ]
  clear hS1
  refine pz_step 8 rfl (by kernel_rfl) (fun K hK => ?_)
  go_wp2_with fail
  have HS2 : Hid ((w1.alloc (.cells #[.slice a1 m1 c1, .bool false, .int .i64 0] 118)).heap[sb]? = w.heap[sb]?) := hid ((((Fr.refl F0 w1).alloc _).block sb (by rw [← F1.out.block sb (lt_of_heap H.out.blk) (fun e => e)] at *; exact lt_of_heap (F1.out.heap H.out.blk (fun e => e))) (fun e => e)).trans HS1.out)
  refine hK _ _ _ (fun _ h => h) HS2.out ?_
  clear hK K
  refine pz_step 9 rfl (by kernel_rfl) (fun K hK => ?_)
  have HRow := hid ((H.out.keep0 F1.out).row.keep ((Fr.refl F0 w1).alloc (.cells #[.slice a1 m1 c1, .bool false, .int .i64 0] 118)) (fun _ _ e => e))
  have HNew := hid (Rg.one3 w1 (.slice a1 m1 c1) (.bool false) (.int .i64 0) 118)
  go_wp2_with (refine wpList_appM (.tmp 24) (.tmp 28) rfl _ (.slice (some ⟨w1.heap.size, 0, none⟩) 1 1) S.l.length (mcells (vs.zip S.l)) [.slice a1 m1 c1, .bool false, .int .i64 0] rfl rfl HRow.out HNew.out (by intro u hu; simp at hu; rcases hu with rfl | rfl | rfl <;> rfl) (by have := HL.out; omega) rfl ?_)
  intro v2 w2 o2 g2 e2
  obtain ⟨a2, c2, rfl, _⟩ := o2.rg.form
  have HO2 := hid o2
  have HE2 := hid e2
  have HF2 := hid (Fr.of_grown g2)
  have HB2 : Hid (w2.heap[sb]? = w.heap[sb]?) := hid ((HF2.out.block sb (lt_of_heap (HS2.out.trans H.out.blk)) (fun e => H.out.ap e)).trans HS2.out)
  clear o2 e2 g2
  go_wp2_with fail
  have hS2 := HB2.out
  refine hK _ _ _ (fun _ h => h) hS2 ?_
  clear hK K
  refine pz_take 10 (v := ?_) [[11, 10]] rfl (by kernel_rfl) (by kernel_rfl) (by kernel_rfl) (by kernel_rfl) (fun _ _ _ h => h) (by rfl) hS2 (fun w' hS' => ?_) ?_
  rotate_left
  · (try dsimp only at hS'); go_simp
    try with_reducible rfl
  simp only [Act.put, List.setIfInBounds_toArray, List.set_cons_zero, List.set_cons_succ]
  refine pz_take 11 (v := ?_) [[11]] rfl (by kernel_rfl) (by kernel_rfl) (by kernel_rfl) (by kernel_rfl) (fun _ _ _ h => h) (by rfl) hS2 (fun w' hS' => ?_) ?_
  rotate_left
  · (try dsimp only at hS'); go_simp
    try with_reducible rfl
  simp only [Act.put, List.setIfInBounds_toArray, List.set_cons_zero, List.set_cons_succ]
  clear hS2
  have hblk := HB2.out.trans H.out.blk
  have hfz : w2.frozen? ⟨sb, 3, none⟩ = false := frozen_at hblk 3
  have hc3 : w2.cell? ⟨sb, 3, none⟩ = some (.slice ao n c) := by rw [cell_at hblk]; rfl
  clear hblk
  refine pz_bar 12 rfl (by kernel_rfl) (fun K hK => ?_)
  go_wp2_with fail
  have HSE := hid (Se.sent H.out F1.out HF2.out HB2.out HO2.out O1.out HLB.out HE2.out)
  refine hK (fun _ => True) _ _ ?_
  clear hK K
  refine pz_done (by kernel_rfl) ?_ _
  go_wp2_with fail
  go_ret
  exact ⟨rfl, _, _, HSE.out⟩

end Go.Proofs.Ytfalaopljodmnaa
