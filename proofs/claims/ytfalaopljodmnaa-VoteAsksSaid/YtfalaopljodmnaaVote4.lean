/- Lists of int; linnetalike.Ints; the reference's minority. -/
import Derived.Test.YtfalaopljodmnaaVoteP
namespace Go.Proofs.Ytfalaopljodmnaa
open Go.RowKit

theorem infoI : (Try.prog.info? 3).map (fun i => (i.zero, i.size, i.bytes)) = some (some (.int .i64 0), 1, 8) := by kernel_rfl

theorem info_partsI {P : Program} {e : TypeId} {z : Option Value} {s b : Nat} (h : (P.info? e).map (fun i => (i.zero, i.size, i.bytes)) = some (z, s, b)) : ∃ i0, P.info? e = some i0 ∧ i0.zero = z ∧ i0.size = s ∧ i0.bytes = b := by
  cases hi : P.info? e with
  | none => rw [hi] at h; cases h
  | some i => rw [hi] at h; simp at h; exact ⟨i, rfl, h.1, h.2.1, h.2.2⟩

/-- 'v' is a []int of l with a row of its own. -/
def Oi (w : World) (v : Value) (l : List Int) : Prop := Own w 3 1 v l.length (l.map (Value.int .i64))

theorem Oi.nil (w : World) : Oi w (.slice none 0 0) [] := Own.nil w _ 1
theorem Oi.ri {w : World} {v : Value} {l : List Int} (h : Oi w v l) : Ri w v l := Own.rg h
theorem Oi.keep0 {w w' : World} {v : Value} {l : List Int} (h : Oi w v l) (f : Fr F0 w w') : Oi w' v l := Own.keep h f (fun _ _ e => e)
theorem Oi.form {w : World} {v : Value} {l : List Int} (h : Oi w v l) : ∃ ao n c, v = .slice ao n c := by
  obtain ⟨ao, c, h, _⟩ := Rg.form (Own.rg h); exact ⟨_, _, _, h⟩
theorem Ri.keep0 {w w' : World} {v : Value} {l : List Int} (h : Ri w v l) (f : Fr F0 w w') : Ri w' v l := Rg.keep h f (fun _ _ e => e)
theorem int_one (l : List Int) : ∀ u ∈ l.map (Value.int .i64), u.oneCell' = true := by
  intro u hu
  obtain ⟨c, _, rfl⟩ := List.mem_map.1 hu
  rfl
theorem Ri.one (w : World) (u : Int) (e : Nat) : Ri (w.alloc (.cells #[.int .i64 u] e)) (.slice (some ⟨w.heap.size, 0, none⟩) 1 1) [u] := by
  refine ⟨rfl, _, 1, rfl, Nat.le_refl _, by simp [maxLen], (fun h => by cases h), fun _ => ⟨w.heap.size, 0, rfl, by simp, fun j hj => ?_⟩⟩
  obtain rfl : j = 0 := by simpa using hj
  simp

/-- 'append(s, x...)' of ints. -/
theorem wpList_appI {w : World} {ops : Array Oper} {rest : List Oper} {o : Oper} {a : Act} {Q : Exit → Act → World → Prop} (hgd : Region.wanted o (yielded ops a.tmps) = true) (s x : Operand)
    (ho : o.op = .call { callee := .builtin .append, args := #[s, x], argTypes := #[31, 31] })
    (v xv : Value) (l m : List Int) (hs : a.eval s = v) (hx : a.eval x = xv) (hown : Oi w v l) (hr : Ri w xv m) (hlen : l.length + m.length ≤ 1099511627776)
    (h : ∀ v' w', Oi w' v' (l ++ m) → w.grownBy w' v.ownBlock → (∀ k, v'.ownBlock = some k → v.ownBlock = some k ∨ w.heap.size ≤ k) → wpList Try.prog ops Q rest (a.put o.dst v') w') : wpList Try.prog ops Q (o :: rest) a w := by
  obtain ⟨i0, hi, hz0, hz1, hz2⟩ := info_partsI infoI
  refine wpList_appOwn hgd s x 31 31 ho 3 i0 _ 1 Try.underlying31 hi hz0 hz1 rfl (by omega) v xv l.length m.length (l.map (Value.int .i64)) (m.map (Value.int .i64)) hs hx hown (Rg.src Try.underlying31 hr (int_one m)) (by omega) (by rw [hz2]; omega) fun v' w' h1 h2 h3 _ => ?_
  refine h v' w' ?_ h2 h3
  unfold Oi; rw [List.map_append, List.length_append]; exact h1

/-- Three slices of bytes in a block. -/
structure L3 (W : World) (lb : Nat) (s : Nat → Value) (x : Nat → List UInt8) : Prop where
  at_ : W.heap[lb]? = some (.cells #[s 0, s 1, s 2] 53 (0, 0))
  rd : ∀ k, k < 3 → Rd W (s k) (x k)

theorem L3.keep0 {W W' : World} {lb : Nat} {s : Nat → Value} {x : Nat → List UInt8} (h : L3 W lb s x) (f : Fr F0 W W') : L3 W' lb s x :=
  ⟨f.heap h.at_ (fun e => e), fun k hk => (h.rd k hk).keep0 f⟩

theorem arr3_get (s : Nat → Value) : ∀ k, k < 3 → (#[s 0, s 1, s 2] : Array Value)[k]? = some (s k)
  | 0, _ => rfl
  | 1, _ => rfl
  | 2, _ => rfl
  | k + 3, h => by omega

theorem L3.cell {W : World} {lb : Nat} {s : Nat → Value} {x : Nat → List UInt8} (h : L3 W lb s x) (k : Nat) (hk : k < 3) : W.cell? ⟨lb, k, none⟩ = some (s k) := by
  rw [cell_at h.at_]; exact arr3_get s k hk

theorem run_str (w : World) (v : Value) (l : List UInt8) (h : Rd w v l) : (convert 25 9 v).run Try.prog w = .ok (.string ⟨l.toArray⟩) w :=
  run_strB w 25 9 5 Try.underlying25 Try.underlying5 str_ty _ _ h

set_option maxRecDepth 100000 in
set_option maxHeartbeats 1600000 in
theorem minority_c (s : Nat → Value) (x : Nat → List UInt8) (i : Nat) (hi : i < 3) (w : World) (h : ∀ k, k < 3 → Rd w (s k) (x k)) :
    Calls Try.prog 68 #[.agg #[s 0, s 1, s 2], .int .i64 i] w fun e w' => ∃ r, e = .returned r ∧ Oi w' r (minor x i 3) ∧ Fr F0 w w' ∧ New w r := by
  have H := hid h
  have hi' : (i : Int) < 3 := by omega
  have HI := hid hi
  clear h hi
  have HL : Hid (L3 (w.alloc (.cells #[s 0, s 1, s 2] 53)) w.heap.size s x) := hid ⟨heap_alloc_last _ _, fun k hk => (H.out k hk).keep0 ((Fr.refl _ _).alloc _)⟩
  go_enter Try.func68, Try.ntmps68
  go_wp2_with fail
  go_loopw [5, 6] (fun o y wr => ∃ (k : Nat) (a : Option Addr) (n c : Nat), k ≤ 3 ∧ y = .int .i64 k ∧ o = .slice a n c ∧ Hid (Oi wr (.slice a n c) (minor x i k) ∧ Fr F0 w wr ∧ (∀ q, Value.ownBlock (.slice a n c) = some q → w.heap.size < q) ∧ L3 wr w.heap.size s x)) (fun _ y _ => 3 - (intOf y).toNat)
  case atStart => exact ⟨0, _, _, _, by omega, rfl, rfl, hid ⟨Oi.nil _, (Fr.refl _ _).alloc _, by simp [Value.ownBlock], HL.out⟩⟩
  case round =>
    clear HL
    obtain ⟨k, a, n, c, hk, rfl, rfl, R⟩ := hrel
    by_cases hlt : k < 3
    · have hlt' : (k : Int) < 3 := by omega
      have hS0 : Fr F0 wr wr.drew := (Fr.refl _ _).drew
      have hck : ∀ w' : World, Fr F0 wr w' → w'.cell? ⟨w.heap.size, k, none⟩ = some (s k) := fun w' f => (R.out.2.2.2.keep0 f).cell k hlt
      have hci : ∀ w' : World, Fr F0 wr w' → w'.cell? ⟨w.heap.size, i, none⟩ = some (s i) := fun w' f => (R.out.2.2.2.keep0 f).cell i HI.out
      have hvk : ∀ w' : World, Fr F0 wr w' → (convert 25 9 (s k)).run Try.prog w' = .ok (.string ⟨(x k).toArray⟩) w' := fun w' f => run_str w' _ _ ((R.out.2.2.2.rd k hlt).keep0 f)
      have hvi : ∀ w' : World, Fr F0 wr w' → (convert 25 9 (s i)).run Try.prog w' = .ok (.string ⟨(x i).toArray⟩) w' := fun w' f => run_str w' _ _ ((R.out.2.2.2.rd i HI.out).keep0 f)
      by_cases he : x k = x i
      · have heb := eqB he
        have HM : Hid (minor x i (k + 1) = minor x i k) := hid (by rw [minor, if_pos he])
        clear he
        go_wp2_with fail
        refine plan_start (fun w' => Fr F0 wr w') (by kernel_rfl) ?_
        refine plan_take 0 (v := ?_) rfl (by kernel_rfl) (by kernel_rfl) (by kernel_rfl) (fun _ _ _ h => h) (by rfl) hS0 (fun w' hS' => ?_) ?_
        rotate_left
        · (try dsimp only at hS'); go_simp
          try with_reducible rfl
        simp only [Act.put, List.setIfInBounds_toArray, List.set_cons_zero, List.set_cons_succ]
        refine plan_take 1 (v := ?_) rfl (by kernel_rfl) (by kernel_rfl) (by kernel_rfl) (fun _ _ _ h => h) (by rfl) hS0 (fun w' hS' => ?_) ?_
        rotate_left
        · (try dsimp only at hS'); go_simp
          try with_reducible rfl
        simp only [Act.put, List.setIfInBounds_toArray, List.set_cons_zero, List.set_cons_succ]
        refine plan_take 2 (v := ?_) rfl (by kernel_rfl) (by kernel_rfl) (by kernel_rfl) (fun _ _ _ h => h) (by rfl) hS0 (fun w' hS' => ?_) ?_
        rotate_left
        · (try dsimp only at hS'); go_simp
          try with_reducible rfl
        simp only [Act.put, List.setIfInBounds_toArray, List.set_cons_zero, List.set_cons_succ]
        refine plan_take 3 (v := ?_) rfl (by kernel_rfl) (by kernel_rfl) (by kernel_rfl) (fun _ _ _ h => h) (by rfl) hS0 (fun w' hS' => ?_) ?_
        rotate_left
        · (try dsimp only at hS'); go_simp
          try with_reducible rfl
        simp only [Act.put, List.setIfInBounds_toArray, List.set_cons_zero, List.set_cons_succ]
        refine plan_take 4 (v := ?_) rfl (by kernel_rfl) (by kernel_rfl) (by kernel_rfl) (fun _ _ _ h => h) (by rfl) hS0 (fun w' hS' => ?_) ?_
        rotate_left
        · (try dsimp only at hS'); go_simp
          try with_reducible rfl
        simp only [Act.put, List.setIfInBounds_toArray, List.set_cons_zero, List.set_cons_succ]
        refine plan_take 5 (v := ?_) rfl (by kernel_rfl) (by kernel_rfl) (by kernel_rfl) (fun _ _ _ h => h) (by rfl) hS0 (fun w' hS' => ?_) ?_
        rotate_left
        · (try dsimp only at hS'); go_simp
          try with_reducible rfl
        simp only [Act.put, List.setIfInBounds_toArray, List.set_cons_zero, List.set_cons_succ]
        refine plan_take 6 (v := ?_) rfl (by kernel_rfl) (by kernel_rfl) (by kernel_rfl) (fun _ _ _ h => h) (by rfl) hS0 (fun w' hS' => ?_) ?_
        rotate_left
        · (try dsimp only at hS'); go_simp
          try with_reducible rfl
        simp only [Act.put, List.setIfInBounds_toArray, List.set_cons_zero, List.set_cons_succ]
        refine plan_take 7 (v := ?_) rfl (by kernel_rfl) (by kernel_rfl) (by kernel_rfl) (fun _ _ _ h => h) (by rfl) hS0 (fun w' hS' => ?_) ?_
        rotate_left
        · (try dsimp only at hS'); go_simp
          try with_reducible rfl
        simp only [Act.put, List.setIfInBounds_toArray, List.set_cons_zero, List.set_cons_succ]
        refine plan_take 8 (v := ?_) rfl (by kernel_rfl) (by kernel_rfl) (by kernel_rfl) (fun _ _ _ h => h) (by rfl) hS0 (fun w' hS' => ?_) ?_
        rotate_left
        · (try dsimp only at hS'); go_simp
          try with_reducible rfl
        simp only [Act.put, List.setIfInBounds_toArray, List.set_cons_zero, List.set_cons_succ]
        refine plan_done (by kernel_rfl) ?_ _
        clear hS0 hck hci hvk hvi
        go_wp2_with fail
        exact ⟨⟨k + 1, _, _, _, by omega, by go_num, rfl, hid ⟨by rw [HM.out]; exact R.out.1.keep0 ((Fr.refl _ _).drew), R.out.2.1.drew, R.out.2.2.1, R.out.2.2.2.keep0 ((Fr.refl _ _).drew)⟩⟩, by simp [intOf]; omega⟩
      · have heb := neB he
        have HM : Hid (minor x i (k + 1) = minor x i k ++ [(k : Int)]) := hid (by rw [minor, if_neg he])
        clear he
        go_wp2_with fail
        refine plan_start (fun w' => Fr F0 wr w') (by kernel_rfl) ?_
        refine plan_take 0 (v := ?_) rfl (by kernel_rfl) (by kernel_rfl) (by kernel_rfl) (fun _ _ _ h => h) (by rfl) hS0 (fun w' hS' => ?_) ?_
        rotate_left
        · (try dsimp only at hS'); go_simp
          try with_reducible rfl
        simp only [Act.put, List.setIfInBounds_toArray, List.set_cons_zero, List.set_cons_succ]
        refine plan_take 1 (v := ?_) rfl (by kernel_rfl) (by kernel_rfl) (by kernel_rfl) (fun _ _ _ h => h) (by rfl) hS0 (fun w' hS' => ?_) ?_
        rotate_left
        · (try dsimp only at hS'); go_simp
          try with_reducible rfl
        simp only [Act.put, List.setIfInBounds_toArray, List.set_cons_zero, List.set_cons_succ]
        refine plan_take 2 (v := ?_) rfl (by kernel_rfl) (by kernel_rfl) (by kernel_rfl) (fun _ _ _ h => h) (by rfl) hS0 (fun w' hS' => ?_) ?_
        rotate_left
        · (try dsimp only at hS'); go_simp
          try with_reducible rfl
        simp only [Act.put, List.setIfInBounds_toArray, List.set_cons_zero, List.set_cons_succ]
        refine plan_take 3 (v := ?_) rfl (by kernel_rfl) (by kernel_rfl) (by kernel_rfl) (fun _ _ _ h => h) (by rfl) hS0 (fun w' hS' => ?_) ?_
        rotate_left
        · (try dsimp only at hS'); go_simp
          try with_reducible rfl
        simp only [Act.put, List.setIfInBounds_toArray, List.set_cons_zero, List.set_cons_succ]
        refine plan_take 4 (v := ?_) rfl (by kernel_rfl) (by kernel_rfl) (by kernel_rfl) (fun _ _ _ h => h) (by rfl) hS0 (fun w' hS' => ?_) ?_
        rotate_left
        · (try dsimp only at hS'); go_simp
          try with_reducible rfl
        simp only [Act.put, List.setIfInBounds_toArray, List.set_cons_zero, List.set_cons_succ]
        refine plan_take 5 (v := ?_) rfl (by kernel_rfl) (by kernel_rfl) (by kernel_rfl) (fun _ _ _ h => h) (by rfl) hS0 (fun w' hS' => ?_) ?_
        rotate_left
        · (try dsimp only at hS'); go_simp
          try with_reducible rfl
        simp only [Act.put, List.setIfInBounds_toArray, List.set_cons_zero, List.set_cons_succ]
        refine plan_take 6 (v := ?_) rfl (by kernel_rfl) (by kernel_rfl) (by kernel_rfl) (fun _ _ _ h => h) (by rfl) hS0 (fun w' hS' => ?_) ?_
        rotate_left
        · (try dsimp only at hS'); go_simp
          try with_reducible rfl
        simp only [Act.put, List.setIfInBounds_toArray, List.set_cons_zero, List.set_cons_succ]
        refine plan_take 7 (v := ?_) rfl (by kernel_rfl) (by kernel_rfl) (by kernel_rfl) (fun _ _ _ h => h) (by rfl) hS0 (fun w' hS' => ?_) ?_
        rotate_left
        · (try dsimp only at hS'); go_simp
          try with_reducible rfl
        simp only [Act.put, List.setIfInBounds_toArray, List.set_cons_zero, List.set_cons_succ]
        refine plan_take 8 (v := ?_) rfl (by kernel_rfl) (by kernel_rfl) (by kernel_rfl) (fun _ _ _ h => h) (by rfl) hS0 (fun w' hS' => ?_) ?_
        rotate_left
        · (try dsimp only at hS'); go_simp
          try with_reducible rfl
        simp only [Act.put, List.setIfInBounds_toArray, List.set_cons_zero, List.set_cons_succ]
        refine plan_done (by kernel_rfl) ?_ _
        clear hS0 hck hci hvk hvi
        have HML := hid (minor_len x i k)
        go_wp2_with (at_builtin; refine wpList_appI rfl (.tmp 20) (.tmp 22) rfl _ (.slice (some ⟨wr.heap.size, 0, none⟩) 1 1) (minor x i k) [(k : Int)] rfl rfl ?c1 ?c2 ?c3 ?_)
        case c1 => exact R.out.1.keep0 (((Fr.refl _ _).alloc _).drew)
        case c2 => exact (Ri.one wr (k : Int) 3).keep0 ((Fr.refl _ _).drew)
        case c3 => have := HML.out; simp; omega
        intro v3 w3 h3 g3 e3
        obtain ⟨a3, n3, c3, rfl⟩ := h3.form
        have f3 := Fr.grown (R.out.2.1.alloc (.cells #[.int .i64 k] 3)).drew g3 (fun i hi hlt => by have := R.out.2.2.1 i hi; omega)
        have HR3 := hid (show Oi w3 (.slice a3 n3 c3) (minor x i (k + 1)) ∧ Fr F0 w w3 ∧ (∀ q, Value.ownBlock (.slice a3 n3 c3) = some q → w.heap.size < q) ∧ L3 w3 w.heap.size s x from ⟨by rw [HM.out]; exact h3, f3, fun q hq => by
          rcases e3 q hq with e | e
          · exact R.out.2.2.1 q e
          · have := lt_of_heap R.out.2.2.2.at_; have : wr.heap.size + 1 ≤ q := by simpa using e
            omega,
          ⟨(Fr.of_grown g3).heap ((((Fr.refl F0 wr).alloc (.cells #[.int .i64 k] 3)).drew).heap R.out.2.2.2.at_ (fun e => e)) (fun e => by have := R.out.2.2.1 _ e; omega), fun q hq => (H.out q hq).keep0 f3⟩⟩)
        clear h3 g3 e3 f3
        go_wp2_with fail
        exact ⟨⟨k + 1, _, _, _, by omega, by go_num, rfl, HR3⟩, by simp [intOf]; omega⟩
    · have hge : ¬ (k : Int) < 3 := by omega
      have R := hid (show Oi wr (.slice a n c) (minor x i 3) ∧ Fr F0 w wr ∧ New w (.slice a n c) from (show k = 3 by omega) ▸ ⟨R.out.1, R.out.2.1, fun q hq => Nat.le_of_lt (R.out.2.2.1 q hq)⟩)
      clear hlt hk
      go_wp2_with fail
      go_ret
      exact ⟨_, rfl, R.out⟩

set_option maxRecDepth 100000 in
set_option maxHeartbeats 800000 in
theorem ints_c (u v : Value) (a b : List Int) (w : World) (hu : Ri w u a) (hv : Ri w v b) :
    Calls Try.prog 36 #[u, v] w fun e w' => e = .returned (.bool (a == b)) ∧ Fr F0 w w' := by
  obtain ⟨ao, c, rfl, _⟩ := hu.form
  obtain ⟨bo, d, rfl, _⟩ := hv.form
  have HU := hid hu
  have HV := hid hv
  have hm : a.length ≤ 9223372036854775807 := by obtain ⟨_, ao', c', h, h1, h2, _⟩ := hu; cases h; unfold maxLen at h2; omega
  have hm' : b.length ≤ 9223372036854775807 := by obtain ⟨_, ao', c', h, h1, h2, _⟩ := hv; cases h; unfold maxLen at h2; omega
  clear hu hv
  obtain ⟨n, HN⟩ : ∃ n, Hid (a.length = n) := ⟨_, hid rfl⟩
  obtain ⟨m, HM⟩ : ∃ m, Hid (b.length = m) := ⟨_, hid rfl⟩
  rw [HN.out] at HU hm ⊢
  rw [HM.out] at HV hm' ⊢
  by_cases hl : n = m
  · subst hl
    go_enter Try.func36, Try.ntmps36
    go_wp2_with fail
    go_loopw [5] (fun y wr => ∃ k : Nat, k ≤ n ∧ y = .int .i64 k ∧ Hid (a.take k = b.take k ∧ Fr F0 w wr)) (fun y _ => n - (intOf y).toNat)
    case atStart => exact ⟨0, by omega, rfl, hid ⟨rfl, Fr.refl _ _⟩⟩
    case round =>
      obtain ⟨k, hk, rfl, R⟩ := hrel
      by_cases hlt : k < n
      · have hlt' : (k : Int) < (n : Int) := by omega
        have hS0 : Fr F0 wr wr.drew := (Fr.refl _ _).drew
        have hua : Ri w (.slice ao a.length c) a := by rw [HN.out]; exact HU.out
        have hvb : Ri w (.slice bo b.length d) b := by rw [HM.out]; exact HV.out
        obtain ⟨b1, o1, c1, e1, _, g1⟩ := hua.open (by rw [HN.out]; omega)
        obtain ⟨b2, o2, c2, e2, _, g2⟩ := hvb.open (by rw [HM.out]; omega)
        injection e1 with e1 _ ec
        subst ec
        injection e2 with e2 _ ec
        subst ec
        subst e1
        subst e2
        obtain ⟨p, hp⟩ : ∃ p, a[k]? = some p := ⟨_, List.getElem?_eq_getElem (by rw [HN.out]; exact hlt)⟩
        obtain ⟨q, hq⟩ : ∃ q, b[k]? = some q := ⟨_, List.getElem?_eq_getElem (by rw [HM.out]; exact hlt)⟩
        have hca : ∀ w' : World, Fr F0 wr w' → w'.cell? ⟨b1, o1 + k, none⟩ = some (.int .i64 p) := fun w' f => by
          have := g1 k p hp
          rw [(F0.and R.out.2 f).cell (block_lt_of_cell this) (fun e => e), this]
        have hcb : ∀ w' : World, Fr F0 wr w' → w'.cell? ⟨b2, o2 + k, none⟩ = some (.int .i64 q) := fun w' f => by
          have := g2 k q hq
          rw [(F0.and R.out.2 f).cell (block_lt_of_cell this) (fun e => e), this]
        clear g1 g2 hua hvb
        by_cases hpq : p = q
        · subst hpq
          have HT : Hid (a.take (k + 1) = b.take (k + 1)) := hid (by rw [List.take_add_one, List.take_add_one, hp, hq, R.out.1])
          clear hp hq
          go_wp2_with fail
          refine plan_start (fun w' => Fr F0 wr w') (by kernel_rfl) ?_
          refine plan_take 0 (v := ?_) rfl (by kernel_rfl) (by kernel_rfl) (by kernel_rfl) (fun _ _ _ h => h) (by rfl) hS0 (fun w' hS' => ?_) ?_
          rotate_left
          · (try dsimp only at hS'); go_simp
            try with_reducible rfl
          simp only [Act.put, List.setIfInBounds_toArray, List.set_cons_zero, List.set_cons_succ]
          refine plan_take 1 (v := ?_) rfl (by kernel_rfl) (by kernel_rfl) (by kernel_rfl) (fun _ _ _ h => h) (by rfl) hS0 (fun w' hS' => ?_) ?_
          rotate_left
          · (try dsimp only at hS'); go_simp
            try with_reducible rfl
          simp only [Act.put, List.setIfInBounds_toArray, List.set_cons_zero, List.set_cons_succ]
          refine plan_take 2 (v := ?_) rfl (by kernel_rfl) (by kernel_rfl) (by kernel_rfl) (fun _ _ _ h => h) (by rfl) hS0 (fun w' hS' => ?_) ?_
          rotate_left
          · (try dsimp only at hS'); go_simp
            try with_reducible rfl
          simp only [Act.put, List.setIfInBounds_toArray, List.set_cons_zero, List.set_cons_succ]
          refine plan_take 3 (v := ?_) rfl (by kernel_rfl) (by kernel_rfl) (by kernel_rfl) (fun _ _ _ h => h) (by rfl) hS0 (fun w' hS' => ?_) ?_
          rotate_left
          · (try dsimp only at hS'); go_simp
            try with_reducible rfl
          simp only [Act.put, List.setIfInBounds_toArray, List.set_cons_zero, List.set_cons_succ]
          refine plan_take 4 (v := ?_) rfl (by kernel_rfl) (by kernel_rfl) (by kernel_rfl) (fun _ _ _ h => h) (by rfl) hS0 (fun w' hS' => ?_) ?_
          rotate_left
          · (try dsimp only at hS'); go_simp
            try with_reducible rfl
          simp only [Act.put, List.setIfInBounds_toArray, List.set_cons_zero, List.set_cons_succ]
          refine plan_take 5 (v := ?_) rfl (by kernel_rfl) (by kernel_rfl) (by kernel_rfl) (fun _ _ _ h => h) (by rfl) hS0 (fun w' hS' => ?_) ?_
          rotate_left
          · (try dsimp only at hS'); go_simp
            try with_reducible rfl
          simp only [Act.put, List.setIfInBounds_toArray, List.set_cons_zero, List.set_cons_succ]
          refine plan_take 6 (v := ?_) rfl (by kernel_rfl) (by kernel_rfl) (by kernel_rfl) (fun _ _ _ h => h) (by rfl) hS0 (fun w' hS' => ?_) ?_
          rotate_left
          · (try dsimp only at hS'); go_simp
            try with_reducible rfl
          simp only [Act.put, List.setIfInBounds_toArray, List.set_cons_zero, List.set_cons_succ]
          refine plan_take 7 (v := ?_) rfl (by kernel_rfl) (by kernel_rfl) (by kernel_rfl) (fun _ _ _ h => h) (by rfl) hS0 (fun w' hS' => ?_) ?_
          rotate_left
          · (try dsimp only at hS'); go_simp
            try with_reducible rfl
          simp only [Act.put, List.setIfInBounds_toArray, List.set_cons_zero, List.set_cons_succ]
          refine plan_take 8 (v := ?_) rfl (by kernel_rfl) (by kernel_rfl) (by kernel_rfl) (fun _ _ _ h => h) (by rfl) hS0 (fun w' hS' => ?_) ?_
          rotate_left
          · (try dsimp only at hS'); go_simp
            try with_reducible rfl
          simp only [Act.put, List.setIfInBounds_toArray, List.set_cons_zero, List.set_cons_succ]
          refine plan_done (by kernel_rfl) ?_ _
          clear hS0 hca hcb
          go_wp2_with fail
          exact ⟨⟨k + 1, by omega, by go_num, hid ⟨HT.out, R.out.2.drew⟩⟩, by simp [intOf]; omega⟩
        · have HE : Hid ((a == b) = false) := hid (by rw [beq_eq_false_iff_ne]; intro e; rw [e, hq] at hp; cases hp; exact hpq rfl)
          have hpq' : (p == q) = false := by simp [hpq]
          clear hp hq
          go_wp2_with fail
          refine plan_start (fun w' => Fr F0 wr w') (by kernel_rfl) ?_
          refine plan_take 0 (v := ?_) rfl (by kernel_rfl) (by kernel_rfl) (by kernel_rfl) (fun _ _ _ h => h) (by rfl) hS0 (fun w' hS' => ?_) ?_
          rotate_left
          · (try dsimp only at hS'); go_simp
            try with_reducible rfl
          simp only [Act.put, List.setIfInBounds_toArray, List.set_cons_zero, List.set_cons_succ]
          refine plan_take 1 (v := ?_) rfl (by kernel_rfl) (by kernel_rfl) (by kernel_rfl) (fun _ _ _ h => h) (by rfl) hS0 (fun w' hS' => ?_) ?_
          rotate_left
          · (try dsimp only at hS'); go_simp
            try with_reducible rfl
          simp only [Act.put, List.setIfInBounds_toArray, List.set_cons_zero, List.set_cons_succ]
          refine plan_take 2 (v := ?_) rfl (by kernel_rfl) (by kernel_rfl) (by kernel_rfl) (fun _ _ _ h => h) (by rfl) hS0 (fun w' hS' => ?_) ?_
          rotate_left
          · (try dsimp only at hS'); go_simp
            try with_reducible rfl
          simp only [Act.put, List.setIfInBounds_toArray, List.set_cons_zero, List.set_cons_succ]
          refine plan_take 3 (v := ?_) rfl (by kernel_rfl) (by kernel_rfl) (by kernel_rfl) (fun _ _ _ h => h) (by rfl) hS0 (fun w' hS' => ?_) ?_
          rotate_left
          · (try dsimp only at hS'); go_simp
            try with_reducible rfl
          simp only [Act.put, List.setIfInBounds_toArray, List.set_cons_zero, List.set_cons_succ]
          refine plan_take 4 (v := ?_) rfl (by kernel_rfl) (by kernel_rfl) (by kernel_rfl) (fun _ _ _ h => h) (by rfl) hS0 (fun w' hS' => ?_) ?_
          rotate_left
          · (try dsimp only at hS'); go_simp
            try with_reducible rfl
          simp only [Act.put, List.setIfInBounds_toArray, List.set_cons_zero, List.set_cons_succ]
          refine plan_take 5 (v := ?_) rfl (by kernel_rfl) (by kernel_rfl) (by kernel_rfl) (fun _ _ _ h => h) (by rfl) hS0 (fun w' hS' => ?_) ?_
          rotate_left
          · (try dsimp only at hS'); go_simp
            try with_reducible rfl
          simp only [Act.put, List.setIfInBounds_toArray, List.set_cons_zero, List.set_cons_succ]
          refine plan_take 6 (v := ?_) rfl (by kernel_rfl) (by kernel_rfl) (by kernel_rfl) (fun _ _ _ h => h) (by rfl) hS0 (fun w' hS' => ?_) ?_
          rotate_left
          · (try dsimp only at hS'); go_simp
            try with_reducible rfl
          simp only [Act.put, List.setIfInBounds_toArray, List.set_cons_zero, List.set_cons_succ]
          refine plan_take 7 (v := ?_) rfl (by kernel_rfl) (by kernel_rfl) (by kernel_rfl) (fun _ _ _ h => h) (by rfl) hS0 (fun w' hS' => ?_) ?_
          rotate_left
          · (try dsimp only at hS'); go_simp
            try with_reducible rfl
          simp only [Act.put, List.setIfInBounds_toArray, List.set_cons_zero, List.set_cons_succ]
          refine plan_take 8 (v := ?_) rfl (by kernel_rfl) (by kernel_rfl) (by kernel_rfl) (fun _ _ _ h => h) (by rfl) hS0 (fun w' hS' => ?_) ?_
          rotate_left
          · (try dsimp only at hS'); go_simp
            try with_reducible rfl
          simp only [Act.put, List.setIfInBounds_toArray, List.set_cons_zero, List.set_cons_succ]
          refine plan_done (by kernel_rfl) ?_ _
          clear hS0 hca hcb
          go_wp2_with fail
          go_ret
          exact ⟨ret_bool (by rw [HE.out]), R.out.2.drew⟩
      · have HE : Hid ((a == b) = true) := hid (by
          have e : k = n := by omega
          have := R.out.1
          rw [List.take_of_length_le (by rw [HN.out]; omega), List.take_of_length_le (by rw [HM.out]; omega)] at this
          simp [this])
        have hge : ¬ (k : Int) < (n : Int) := by omega
        clear hlt
        go_wp2_with fail
        go_ret
        exact ⟨ret_bool (by rw [HE.out]), R.out.2⟩
  · have hl' : ¬ (n : Int) = (m : Int) := by omega
    have HE : Hid ((a == b) = false) := hid (by rw [beq_eq_false_iff_ne]; intro e; rw [e, HM.out] at HN; exact hl HN.out.symm)
    clear hl
    rw [HE.out]
    go_enter Try.func36, Try.ntmps36
    go_wp2_with fail
    go_ret
    exact ⟨rfl, Fr.refl _ _⟩

end Go.Proofs.Ytfalaopljodmnaa
