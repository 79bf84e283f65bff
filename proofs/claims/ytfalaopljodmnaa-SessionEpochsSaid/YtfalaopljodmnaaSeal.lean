/- bytes.Equal; codec: Seal, Unseal; the reference's: Seal, Unseal. -/
import Derived.Test.YtfalaopljodmnaaRSum
import Derived.Test.YtfalaopljodmnaaPlan
namespace Go.Proofs.Ytfalaopljodmnaa
open Go.RowKit

theorem eqB {a b : List UInt8} (h : a = b) : (a == b) = true := by simp [h]
theorem neB {a b : List UInt8} (h : a ≠ b) : (a == b) = false := by simp [h]

theorem ret_bool {a b : Bool} (h : a = b) : Ending.returned (.bool a) = .returned (.bool b) := by rw [h]

set_option maxRecDepth 100000 in
set_option maxHeartbeats 800000 in
theorem beq_c (x y : Value) (a b : List UInt8) (w : World) (hx : Rd w x a) (hy : Rd w y b) :
    Calls Try.prog 67 #[x, y] w fun e w' => e = .returned (.bool (a == b)) ∧ w = w' := by
  have HX := hid hx
  have HY := hid hy
  clear hx hy
  go_enter Try.func67, Try.ntmps67
  go_wp2_with (first | (refine wpList_strB rfl (.tmp 5) 25 9 rfl 5 Try.underlying25 Try.underlying5 str_ty x a rfl HX.out ?_) | (refine wpList_strB rfl (.tmp 7) 25 9 rfl 5 Try.underlying25 Try.underlying5 str_ty y b rfl HY.out ?_))
  go_ret
  exact ⟨ret_bool rfl, rfl⟩

/-- Bytes, and their sum. -/
def sealed (l : List UInt8) : List UInt8 := l ++ sha l

/-- What was sealed. -/
def opened (l : List UInt8) : Option (List UInt8) :=
  if 32 ≤ l.length ∧ sha (l.take (l.length - 32)) = l.drop (l.length - 32) then some (l.take (l.length - 32)) else none

theorem opened_sealed (l : List UInt8) : opened (sealed l) = some l := by
  unfold opened sealed
  have h : (l ++ sha l).length - 32 = l.length := by rw [List.length_append, sha_len]; omega
  rw [h, List.take_left', List.drop_left', if_pos ⟨by rw [List.length_append, sha_len]; omega, rfl⟩] <;> rfl

theorem opened_some {l m : List UInt8} (h : opened l = some m) : l = sealed m := by
  unfold opened at h
  split at h
  · rename_i h1
    cases h
    unfold sealed
    rw [h1.2, List.take_append_drop]
  · cases h

/-- One piece. -/
theorem LL.one {w : World} {v : Value} {l : List UInt8} {e : Nat} (h : Rd w v l) : LL (w.alloc (.cells #[v] e)) (.slice (some ⟨w.heap.size, 0, none⟩) 1 1) [l] :=
  ⟨[v], ⟨rfl, _, 1, rfl, Nat.le_refl _, by simp [maxLen], (fun h => by cases h), fun _ => ⟨w.heap.size, 0, rfl, by simp, fun j hj => by
    obtain rfl : j = 0 := by simpa using hj
    simp⟩⟩, fun i m hm => by
    match i, hm with
    | 0, hm => cases hm; exact ⟨v, rfl, h.keep0 ((Fr.refl _ _).alloc _)⟩⟩

theorem LL.drew {w : World} {v : Value} {ls : List (List UInt8)} (h : LL w v ls) : LL w.drew v ls := h.keep0 (Fr.refl _ _).drew

theorem heap_size_alloc' (w : World) (o : Obj) : (w.alloc o).heap.size = w.heap.size + 1 := by simp

theorem F0.and {a b c : World} (h : Fr F0 a b) (k : Fr F0 b c) : Fr F0 a c := Fr.trans h k (fun _ _ e => e)

set_option maxRecDepth 100000 in
set_option maxHeartbeats 800000 in
theorem seal_c (v : Value) (l : List UInt8) (w : World) (hr : Rd w v l) (hl : l.length ≤ 35184372088832) :
    Calls Try.prog 69 #[v] w fun e w' => ∃ r, e = .returned r ∧ Ob w' 5 r (sealed l) ∧ Fr F0 w w' ∧ New w r := by
  obtain ⟨ao, c, rfl, _⟩ := hr.form
  have HR := hid hr
  have HL := hid hl
  clear hr hl
  go_enter Try.func69, Try.ntmps69
  go_wp2_with fail
  refine (dsum_c _ [l] _ (LL.one HR.out) (by simp) (by simpa using HL.out)).mono ?_
  rintro e w1 ⟨r1, rfl, h1, f1, n1⟩
  have h1 : Ob w1 5 r1 (sha l) := by simpa using h1
  have F1 := hid (((Fr.refl F0 w).alloc _).trans f1 (fun _ _ e => e))
  have H1 := hid h1.rd
  obtain ⟨a1, m1, c1, rfl⟩ := h1.form
  clear h1 f1 n1
  go_wp2_with fail
  refine (concat_c _ [l, sha l] _ (LL.two (HR.out.keep0 F1.out) H1.out _) (by have := HL.out; simp [sha_len]; omega)).mono ?_
  rintro e w2 ⟨r2, rfl, h2, f2, n2⟩
  have h2 : Ob w2 5 r2 (sealed l) := by simpa [sealed] using h2
  have H2 := hid (show Ob w2 5 r2 (sealed l) ∧ Fr F0 w w2 ∧ New w r2 from ⟨h2, Fr.trans (F1.out.alloc _) f2 (fun _ _ e => e), fun k hk => by have := n2 k hk; have := F1.out.size; simp at *; omega⟩)
  clear h2 f2 n2
  go_wp2_with fail
  go_ret
  exact ⟨_, rfl, H2.out⟩

/-- What opening tells: no error, 0; else e0. -/
def OpenTo (w : World) (o : Option (List UInt8)) (e0 : Int) (e : Ending) (w' : World) : Prop :=
  ∃ r, e = .returned (.tuple #[r, .int .i64 (if o.isSome then 0 else e0)]) ∧ Ob w' 5 r (o.getD []) ∧ Fr F0 w w' ∧ New w r

set_option maxRecDepth 100000 in
set_option maxHeartbeats 800000 in
theorem open_c (v : Value) (l : List UInt8) (w : World) (hr : Rd w v l) (hl : l.length ≤ 35184372088832) :
    Calls Try.prog 57 #[v] w fun e w' => OpenTo w (opened l) 2 e w' := by
  obtain ⟨ao, c, rfl, _⟩ := hr.form
  obtain ⟨n, HN⟩ : ∃ n, Hid (l.length = n) := ⟨_, hid rfl⟩
  rw [HN.out] at hr hl ⊢
  have HR := hid hr
  clear hr
  by_cases h32 : n < 32
  · have h : (n : Int) - 32 < 0 := by omega
    have HO : Hid (opened l = none) := hid (by unfold opened; rw [HN.out, if_neg (by omega)])
    have hd : decide ((n : Int) - 32 < 0) = true := by simpa using h
    clear h32
    go_enter Try.func57, Try.ntmps57
    go_wp2_with fail
    go_quiet (fail)
    go_wp2_with fail
    go_ret2
    exact ⟨_, by rw [HO.out]; rfl, by rw [HO.out]; exact Ob.nil _ _, (Fr.refl _ _).drewN _, New.nil _ _ _⟩
  · obtain ⟨q, rfl⟩ : ∃ q, n = q + 32 := ⟨n - 32, by omega⟩
    clear h32
    obtain ⟨a1, m1, c1, run1, H1⟩ := run_slB (P := Try.prog) 25 5 Try.underlying25 infoB _ l HR.out none (some (.int .i64 q)) 0 q (.inl ⟨rfl, rfl⟩) (.inr rfl) (by omega) (by rw [HN.out]; omega)
    obtain ⟨a2, m2, c2, run2, H2⟩ := run_slB (P := Try.prog) 25 5 Try.underlying25 infoB _ l HR.out (some (.int .i64 q)) none q (q + 32) (.inr rfl) (.inl ⟨rfl, HN.out.symm⟩) (by omega) (by rw [HN.out]; omega)
    have hd : decide ((q : Int) < 0) = false := by simp
    have R1 : Hid (Rd w (.slice a1 m1 c1) (l.take q)) := hid (by simpa using H1.out.1)
    have R2 : Hid (Rd w (.slice a2 m2 c2) (l.drop q)) := hid (by have := H2.out.1; rwa [List.take_of_length_le (by rw [List.length_drop, HN.out]; omega)] at this)
    clear H1 H2
    have HLT : Hid ((l.take q).length ≤ 35184372088832) := hid (by rw [List.length_take]; omega)
    by_cases he : sha (l.take q) = l.drop q
    · have HO : Hid (opened l = some (l.take q)) := hid (by unfold opened; rw [HN.out, Nat.add_sub_cancel, if_pos ⟨by omega, he⟩])
      have heb := eqB he
      clear he
      go_enter Try.func57, Try.ntmps57
      go_wp2_with fail
      go_region_held3 (fun _ => True) (trivial) (first | (go_at_call 77; refine (dsum_c _ [l.take q] _ ((LL.one (e := 25) R1.out).drew) (by simp) (by simpa using HLT.out)).mono ?_; rintro e w1 ⟨r1, rfl, h1, f1, n1⟩) | (go_at_call 67; refine (beq_c _ _ (sha (l.take q)) (l.drop q) _ (by simpa using h1.rd) (R2.out.keep0 (F0.and (((Fr.refl F0 w).alloc _).drew) f1))).mono ?_; rintro e w1 ⟨rfl, rfl⟩))
      have F1 := hid (F0.and (((Fr.refl F0 w).alloc _).drew) f1)
      clear h1 f1 n1 run2
      go_wp2_with fail
      refine (clone_c _ (l.take q) _ (R1.out.keep0 F1.out) (by have := HLT.out; omega)).mono ?_
      rintro e w2 ⟨r2, rfl, h2, f2, n2, _⟩
      obtain ⟨a3, m3, c3, rfl⟩ := h2.form
      have H2 := hid (show OpenTo w (opened l) 2 (.returned (.tuple #[.slice a3 m3 c3, .int .i64 0])) w2 from ⟨_, by rw [HO.out]; rfl, by rw [HO.out]; exact h2, F0.and F1.out f2, fun k hk => Nat.le_trans F1.out.size (n2 k hk)⟩)
      clear h2 f2 n2
      go_wp2_with fail
      go_ret2
      exact H2.out
    · have HO : Hid (opened l = none) := hid (by unfold opened; rw [HN.out, Nat.add_sub_cancel, if_neg (fun h => he h.2)])
      have heb := neB he
      clear he
      go_enter Try.func57, Try.ntmps57
      go_wp2_with fail
      go_region_held3 (fun _ => True) (trivial) (first | (go_at_call 77; refine (dsum_c _ [l.take q] _ ((LL.one (e := 25) R1.out).drew) (by simp) (by simpa using HLT.out)).mono ?_; rintro e w1 ⟨r1, rfl, h1, f1, n1⟩) | (go_at_call 67; refine (beq_c _ _ (sha (l.take q)) (l.drop q) _ (by simpa using h1.rd) (R2.out.keep0 (F0.and (((Fr.refl F0 w).alloc _).drew) f1))).mono ?_; rintro e w1 ⟨rfl, rfl⟩))
      have F1 := hid (F0.and (((Fr.refl F0 w).alloc _).drew) f1)
      clear h1 f1 n1 run2 run1
      go_wp2_with fail
      go_ret2
      exact ⟨_, by rw [HO.out]; rfl, by rw [HO.out]; exact Ob.nil _ _, F1.out, New.nil _ _ _⟩

theorem infoBB : (Try.prog.info? 5).map (fun i => (i.zero, i.size, i.bytes)) = some (some (.int .u8 0), 1, 1) := infoB

set_option maxRecDepth 100000 in
set_option maxHeartbeats 800000 in
theorem rseal_c (v : Value) (l : List UInt8) (w : World) (hr : Rd w v l) (hl : l.length ≤ 35184372088832) :
    Calls Try.prog 70 #[v] w fun e w' => ∃ r, e = .returned r ∧ Ob w' 5 r (sealed l) ∧ Fr F0 w w' ∧ New w r := by
  obtain ⟨ao, c, rfl, _⟩ := hr.form
  have HR := hid hr
  have HL := hid hl
  clear hr hl
  go_enter Try.func70, Try.ntmps70
  go_wp2_with (at_builtin; refine wpList_appB rfl (.tmp 3) (.tmp 4) 25 rfl 5 Try.underlying25 infoB _ (.slice ao l.length c) [] l rfl rfl (Ob.empty w 5) (HR.out.keep0 ((Fr.refl _ _).alloc _)) (by have := HL.out; simp; omega) ?_)
  intro v1 w1 h1 g1 e1 _
  have f1 : Fr F0 w w1 := ((Fr.refl F0 w).alloc (.cells #[] 5)).grown g1 (fun i hi e => by simp [Value.ownBlock] at hi; omega)
  have n1 : New w v1 := fun k hk => by rcases e1 k hk with e | e; (simp [Value.ownBlock] at e; omega); omega
  obtain ⟨a1, m1, c1, rfl⟩ := h1.form
  have H1 := hid h1
  have F1 := hid f1
  have N1 := hid n1
  clear h1 g1 e1 f1 n1
  go_wp2_with fail
  refine (rsum_c _ l _ (HR.out.keep0 F1.out) HL.out).mono ?_
  rintro e w2 ⟨r2, rfl, h2, f2, n2⟩
  obtain ⟨a2, m2, c2, rfl⟩ := h2.form
  have H2 := hid h2.rd
  have F2 := hid f2
  clear h2 f2 n2
  go_wp2_with (at_builtin; refine wpList_appB rfl (.tmp 5) (.tmp 7) 25 rfl 5 Try.underlying25 infoB _ _ l (sha l) rfl rfl (H1.out.keep0 F2.out) H2.out (by have := HL.out; simp [sha_len]; omega) ?_)
  intro v3 w3 h3 g3 e3 _
  obtain ⟨a3, m3, c3, rfl⟩ := h3.form
  have H3 := hid (show Ob w3 5 (.slice a3 m3 c3) (sealed l) ∧ Fr F0 w w3 ∧ New w (.slice a3 m3 c3) from
    ⟨h3, Fr.grown (F0.and F1.out F2.out) g3 (fun k hk hlt => by have := N1.out k hk; omega), fun k hk => by rcases e3 k hk with e | e; (exact N1.out k e); (have := (F0.and F1.out F2.out).size; omega)⟩)
  clear h3 g3 e3
  go_wp2_with fail
  go_ret
  exact ⟨_, rfl, H3.out⟩

/-- What the reference's opening tells. -/
def ROpenTo (w : World) (v : Value) (o : Option (List UInt8)) (e : Ending) (w' : World) : Prop :=
  ∃ r, e = .returned (.tuple #[r, .int .i64 (if o.isSome then 0 else 2)]) ∧ Rd w' r (o.getD []) ∧ Fr F0 w w' ∧ ∀ k, r.ownBlock = some k → v.ownBlock = some k

set_option maxRecDepth 100000 in
set_option maxHeartbeats 800000 in
theorem ropen_c (v : Value) (l : List UInt8) (w : World) (hr : Rd w v l) (hl : l.length ≤ 35184372088832) :
    Calls Try.prog 52 #[v] w fun e w' => ROpenTo w v (opened l) e w' := by
  obtain ⟨ao, c, rfl, _⟩ := hr.form
  obtain ⟨n, HN⟩ : ∃ n, Hid (l.length = n) := ⟨_, hid rfl⟩
  rw [HN.out] at hr hl ⊢
  have HR := hid hr
  clear hr
  by_cases h32 : n < 32
  · have h : (n : Int) < 32 := by omega
    have HO : Hid (opened l = none) := hid (by unfold opened; rw [HN.out, if_neg (by omega)])
    have hd : decide ((n : Int) < 32) = true := by simpa using h
    clear h32
    go_enter Try.func52, Try.ntmps52
    go_wp2_with fail
    go_quiet (fail)
    go_wp2_with fail
    go_ret2
    exact ⟨_, by rw [HO.out]; rfl, by rw [HO.out]; exact Rd.nil _, (Fr.refl _ _).drewN _, by intro k hk; simp [Value.ownBlock] at hk⟩
  · obtain ⟨q, rfl⟩ : ∃ q, n = q + 32 := ⟨n - 32, by omega⟩
    clear h32
    obtain ⟨a1, m1, c1, run1, H1⟩ := run_slB (P := Try.prog) 25 5 Try.underlying25 infoB _ l HR.out none (some (.int .i64 q)) 0 q (.inl ⟨rfl, rfl⟩) (.inr rfl) (by omega) (by rw [HN.out]; omega)
    obtain ⟨a2, m2, c2, run2, H2⟩ := run_slB (P := Try.prog) 25 5 Try.underlying25 infoB _ l HR.out (some (.int .i64 q)) none q (q + 32) (.inr rfl) (.inl ⟨rfl, HN.out.symm⟩) (by omega) (by rw [HN.out]; omega)
    have hd : decide ((q : Int) + 32 < 32) = false := by simp; omega
    have e1 : IntKind.i64.wrap ((q : Int) + 32 - 32) = (q : Int) := by rw [show (q : Int) + 32 - 32 = q from by omega]; exact IntWalk.i64_in _ (by omega)
    have e2 : IntKind.i64.wrap (q : Int) = (q : Int) := IntWalk.i64_in _ (by omega)
    have R1 : Hid (Rd w (.slice a1 m1 c1) (l.take q)) := hid (by simpa using H1.out.1)
    have N1 : Hid (∀ k, Value.ownBlock (.slice a1 m1 c1) = some k → Value.ownBlock (.slice ao (q + 32) c) = some k) := hid H1.out.2.2.1
    have R2 : Hid (Rd w (.slice a2 m2 c2) (l.drop q)) := hid (by have := H2.out.1; rwa [List.take_of_length_le (by rw [List.length_drop, HN.out]; omega)] at this)
    clear H1 H2
    have HLT : Hid ((l.take q).length ≤ 35184372088832) := hid (by rw [List.length_take]; omega)
    by_cases he : sha (l.take q) = l.drop q
    · have HO : Hid (opened l = some (l.take q)) := hid (by unfold opened; rw [HN.out, Nat.add_sub_cancel, if_pos ⟨by omega, he⟩])
      have heb := eqB he
      clear he
      go_enter Try.func52, Try.ntmps52
      go_wp2_with fail
      have hS0 : Fr F0 w w.drew := (Fr.refl F0 w).drew
      have hcv : ∀ w' : World, Fr F0 w w' → (convert 25 9 (.slice a2 m2 c2)).run Try.prog w' = .ok (.string ⟨(l.drop q).toArray⟩) w' := fun w' f => run_strB w' 25 9 5 Try.underlying25 Try.underlying5 str_ty _ _ (R2.out.keep0 f)
      refine plan_start (fun w' => Fr F0 w w') (by kernel_rfl) ?_
      refine plan_take 0 (v := ?_) rfl (by kernel_rfl) (by kernel_rfl) (by kernel_rfl) (fun _ _ _ h => h) (by rfl) hS0 (fun w' hS' => ?_) ?_
      rotate_left
      · (try dsimp only at hS'); go_simp
        try with_reducible rfl
      simp only [Act.put, List.setIfInBounds_toArray, List.set_cons_zero, List.set_cons_succ]
      refine plan_take 1 (v := ?_) rfl (by kernel_rfl) (by kernel_rfl) (by kernel_rfl) (fun _ _ _ h => h) (by rfl) hS0 (fun w' hS' => ?_) ?_
      rotate_left
      · (try dsimp only at hS'); go_simp
        try with_reducible rfl
      simp only [Act.put, List.setIfInBounds_toArray, List.set_cons_zero, List.set_cons_succ]
      refine plan_take 2 (v := ?_) rfl (by kernel_rfl) (by kernel_rfl) (by kernel_rfl) (fun _ _ _ h => h) (by rfl) hS0 (fun w' hS' => ?_) ?_
      rotate_left
      · (try dsimp only at hS'); go_simp
        try with_reducible rfl
      simp only [Act.put, List.setIfInBounds_toArray, List.set_cons_zero, List.set_cons_succ]
      refine plan_take 3 (v := ?_) rfl (by kernel_rfl) (by kernel_rfl) (by kernel_rfl) (fun _ _ _ h => h) (by rfl) hS0 (fun w' hS' => ?_) ?_
      rotate_left
      · (try dsimp only at hS'); go_simp
        try with_reducible rfl
      simp only [Act.put, List.setIfInBounds_toArray, List.set_cons_zero, List.set_cons_succ]
      refine plan_take 4 (v := ?_) rfl (by kernel_rfl) (by kernel_rfl) (by kernel_rfl) (fun _ _ _ h => h) (by rfl) hS0 (fun w' hS' => ?_) ?_
      rotate_left
      · (try dsimp only at hS'); go_simp
        try with_reducible rfl
      simp only [Act.put, List.setIfInBounds_toArray, List.set_cons_zero, List.set_cons_succ]
      refine plan_take 5 (v := ?_) rfl (by kernel_rfl) (by kernel_rfl) (by kernel_rfl) (fun _ _ _ h => h) (by rfl) hS0 (fun w' hS' => ?_) ?_
      rotate_left
      · (try dsimp only at hS'); go_simp
        try with_reducible rfl
      simp only [Act.put, List.setIfInBounds_toArray, List.set_cons_zero, List.set_cons_succ]
      refine plan_take 6 (v := ?_) rfl (by kernel_rfl) (by kernel_rfl) (by kernel_rfl) (fun _ _ _ h => h) (by rfl) hS0 (fun w' hS' => ?_) ?_
      rotate_left
      · (try dsimp only at hS'); go_simp
        try with_reducible rfl
      simp only [Act.put, List.setIfInBounds_toArray, List.set_cons_zero, List.set_cons_succ]
      refine plan_take 7 (v := ?_) rfl (by kernel_rfl) (by kernel_rfl) (by kernel_rfl) (fun _ _ _ h => h) (by rfl) hS0 (fun w' hS' => ?_) ?_
      rotate_left
      · (try dsimp only at hS'); go_simp
        try with_reducible rfl
      simp only [Act.put, List.setIfInBounds_toArray, List.set_cons_zero, List.set_cons_succ]
      refine plan_take 8 (v := ?_) rfl (by kernel_rfl) (by kernel_rfl) (by kernel_rfl) (fun _ _ _ h => h) (by rfl) hS0 (fun w' hS' => ?_) ?_
      rotate_left
      · (try dsimp only at hS'); go_simp
        try with_reducible rfl
      simp only [Act.put, List.setIfInBounds_toArray, List.set_cons_zero, List.set_cons_succ]
      refine plan_take 11 (v := ?_) rfl (by kernel_rfl) (by kernel_rfl) (by kernel_rfl) (fun _ _ _ h => h) (by rfl) hS0 (fun w' hS' => ?_) ?_
      rotate_left
      · (try dsimp only at hS'); go_simp
        try with_reducible rfl
      simp only [Act.put, List.setIfInBounds_toArray, List.set_cons_zero, List.set_cons_succ]
      refine plan_take 12 (v := ?_) rfl (by kernel_rfl) (by kernel_rfl) (by kernel_rfl) (fun _ _ _ h => h) (by rfl) hS0 (fun w' hS' => ?_) ?_
      rotate_left
      · (try dsimp only at hS'); go_simp
        try with_reducible rfl
      simp only [Act.put, List.setIfInBounds_toArray, List.set_cons_zero, List.set_cons_succ]
      refine plan_take 13 (v := ?_) rfl (by kernel_rfl) (by kernel_rfl) (by kernel_rfl) (fun _ _ _ h => h) (by rfl) hS0 (fun w' hS' => ?_) ?_
      rotate_left
      · (try dsimp only at hS'); go_simp
        try with_reducible rfl
      simp only [Act.put, List.setIfInBounds_toArray, List.set_cons_zero, List.set_cons_succ]
      refine plan_take 14 (v := ?_) rfl (by kernel_rfl) (by kernel_rfl) (by kernel_rfl) (fun _ _ _ h => h) (by rfl) hS0 (fun w' hS' => ?_) ?_
      rotate_left
      · (try dsimp only at hS'); go_simp
        try with_reducible rfl
      simp only [Act.put, List.setIfInBounds_toArray, List.set_cons_zero, List.set_cons_succ]
      refine plan_take 15 (v := ?_) rfl (by kernel_rfl) (by kernel_rfl) (by kernel_rfl) (fun _ _ _ h => h) (by rfl) hS0 (fun w' hS' => ?_) ?_
      rotate_left
      · (try dsimp only at hS'); go_simp
        try with_reducible rfl
      simp only [Act.put, List.setIfInBounds_toArray, List.set_cons_zero, List.set_cons_succ]
      refine plan_take 16 (v := ?_) rfl (by kernel_rfl) (by kernel_rfl) (by kernel_rfl) (fun _ _ _ h => h) (by rfl) hS0 (fun w' hS' => ?_) ?_
      rotate_left
      · (try dsimp only at hS'); go_simp
        try with_reducible rfl
      simp only [Act.put, List.setIfInBounds_toArray, List.set_cons_zero, List.set_cons_succ]
      refine plan_step 9 rfl (by kernel_rfl) (fun K hK => ?_)
      go_wp2_with fail
      refine (rsum_c _ (l.take q) _ (R1.out.keep0 hS0) HLT.out).mono ?_
      rintro e w1 ⟨r1, rfl, h1, f1, n1⟩
      obtain ⟨a3, m3, c3, rfl⟩ := h1.form
      have H1 := hid h1
      have F1 := hid (F0.and hS0 f1)
      clear h1 f1 n1 hcv hS0
      go_wp2_with fail
      have hS1 : Fr F0 w1 w1 := Fr.refl _ _
      have hcv : ∀ w' : World, Fr F0 w1 w' → (convert 25 9 (.slice a3 m3 c3)).run Try.prog w' = .ok (.string ⟨(sha (l.take q)).toArray⟩) w' := fun w' f => run_strB w' 25 9 5 Try.underlying25 Try.underlying5 str_ty _ _ (H1.out.rd.keep0 f)
      refine hK (fun w' => Fr F0 w1 w') _ _ (fun _ h => F0.and F1.out h) hS1 ?_
      clear hK K
      refine plan_take 10 (v := ?_) rfl (by kernel_rfl) (by kernel_rfl) (by kernel_rfl) (fun _ _ _ h => h) (by rfl) hS1 (fun w' hS' => ?_) ?_
      rotate_left
      · (try dsimp only at hS'); go_simp
        try with_reducible rfl
      simp only [Act.put, List.setIfInBounds_toArray, List.set_cons_zero, List.set_cons_succ]
      refine plan_take 17 (v := ?_) rfl (by kernel_rfl) (by kernel_rfl) (by kernel_rfl) (fun _ _ _ h => h) (by rfl) hS1 (fun w' hS' => ?_) ?_
      rotate_left
      · (try dsimp only at hS'); go_simp
        try with_reducible rfl
      simp only [Act.put, List.setIfInBounds_toArray, List.set_cons_zero, List.set_cons_succ]
      refine plan_take 18 (v := ?_) rfl (by kernel_rfl) (by kernel_rfl) (by kernel_rfl) (fun _ _ _ h => h) (by rfl) hS1 (fun w' hS' => ?_) ?_
      rotate_left
      · (try dsimp only at hS'); go_simp
        try with_reducible rfl
      simp only [Act.put, List.setIfInBounds_toArray, List.set_cons_zero, List.set_cons_succ]
      refine plan_done (by kernel_rfl) ?_ _
      clear hcv hS1
      go_wp2_with fail
      go_ret2
      exact ⟨_, by rw [HO.out]; rfl, by rw [HO.out]; exact R1.out.keep0 F1.out, F1.out, N1.out⟩
    · have HO : Hid (opened l = none) := hid (by unfold opened; rw [HN.out, Nat.add_sub_cancel, if_neg (fun h => he h.2)])
      have heb := neB he
      clear he
      go_enter Try.func52, Try.ntmps52
      go_wp2_with fail
      have hS0 : Fr F0 w w.drew := (Fr.refl F0 w).drew
      have hcv : ∀ w' : World, Fr F0 w w' → (convert 25 9 (.slice a2 m2 c2)).run Try.prog w' = .ok (.string ⟨(l.drop q).toArray⟩) w' := fun w' f => run_strB w' 25 9 5 Try.underlying25 Try.underlying5 str_ty _ _ (R2.out.keep0 f)
      refine plan_start (fun w' => Fr F0 w w') (by kernel_rfl) ?_
      refine plan_take 0 (v := ?_) rfl (by kernel_rfl) (by kernel_rfl) (by kernel_rfl) (fun _ _ _ h => h) (by rfl) hS0 (fun w' hS' => ?_) ?_
      rotate_left
      · (try dsimp only at hS'); go_simp
        try with_reducible rfl
      simp only [Act.put, List.setIfInBounds_toArray, List.set_cons_zero, List.set_cons_succ]
      refine plan_take 1 (v := ?_) rfl (by kernel_rfl) (by kernel_rfl) (by kernel_rfl) (fun _ _ _ h => h) (by rfl) hS0 (fun w' hS' => ?_) ?_
      rotate_left
      · (try dsimp only at hS'); go_simp
        try with_reducible rfl
      simp only [Act.put, List.setIfInBounds_toArray, List.set_cons_zero, List.set_cons_succ]
      refine plan_take 2 (v := ?_) rfl (by kernel_rfl) (by kernel_rfl) (by kernel_rfl) (fun _ _ _ h => h) (by rfl) hS0 (fun w' hS' => ?_) ?_
      rotate_left
      · (try dsimp only at hS'); go_simp
        try with_reducible rfl
      simp only [Act.put, List.setIfInBounds_toArray, List.set_cons_zero, List.set_cons_succ]
      refine plan_take 3 (v := ?_) rfl (by kernel_rfl) (by kernel_rfl) (by kernel_rfl) (fun _ _ _ h => h) (by rfl) hS0 (fun w' hS' => ?_) ?_
      rotate_left
      · (try dsimp only at hS'); go_simp
        try with_reducible rfl
      simp only [Act.put, List.setIfInBounds_toArray, List.set_cons_zero, List.set_cons_succ]
      refine plan_take 4 (v := ?_) rfl (by kernel_rfl) (by kernel_rfl) (by kernel_rfl) (fun _ _ _ h => h) (by rfl) hS0 (fun w' hS' => ?_) ?_
      rotate_left
      · (try dsimp only at hS'); go_simp
        try with_reducible rfl
      simp only [Act.put, List.setIfInBounds_toArray, List.set_cons_zero, List.set_cons_succ]
      refine plan_take 5 (v := ?_) rfl (by kernel_rfl) (by kernel_rfl) (by kernel_rfl) (fun _ _ _ h => h) (by rfl) hS0 (fun w' hS' => ?_) ?_
      rotate_left
      · (try dsimp only at hS'); go_simp
        try with_reducible rfl
      simp only [Act.put, List.setIfInBounds_toArray, List.set_cons_zero, List.set_cons_succ]
      refine plan_take 6 (v := ?_) rfl (by kernel_rfl) (by kernel_rfl) (by kernel_rfl) (fun _ _ _ h => h) (by rfl) hS0 (fun w' hS' => ?_) ?_
      rotate_left
      · (try dsimp only at hS'); go_simp
        try with_reducible rfl
      simp only [Act.put, List.setIfInBounds_toArray, List.set_cons_zero, List.set_cons_succ]
      refine plan_take 7 (v := ?_) rfl (by kernel_rfl) (by kernel_rfl) (by kernel_rfl) (fun _ _ _ h => h) (by rfl) hS0 (fun w' hS' => ?_) ?_
      rotate_left
      · (try dsimp only at hS'); go_simp
        try with_reducible rfl
      simp only [Act.put, List.setIfInBounds_toArray, List.set_cons_zero, List.set_cons_succ]
      refine plan_take 8 (v := ?_) rfl (by kernel_rfl) (by kernel_rfl) (by kernel_rfl) (fun _ _ _ h => h) (by rfl) hS0 (fun w' hS' => ?_) ?_
      rotate_left
      · (try dsimp only at hS'); go_simp
        try with_reducible rfl
      simp only [Act.put, List.setIfInBounds_toArray, List.set_cons_zero, List.set_cons_succ]
      refine plan_take 11 (v := ?_) rfl (by kernel_rfl) (by kernel_rfl) (by kernel_rfl) (fun _ _ _ h => h) (by rfl) hS0 (fun w' hS' => ?_) ?_
      rotate_left
      · (try dsimp only at hS'); go_simp
        try with_reducible rfl
      simp only [Act.put, List.setIfInBounds_toArray, List.set_cons_zero, List.set_cons_succ]
      refine plan_take 12 (v := ?_) rfl (by kernel_rfl) (by kernel_rfl) (by kernel_rfl) (fun _ _ _ h => h) (by rfl) hS0 (fun w' hS' => ?_) ?_
      rotate_left
      · (try dsimp only at hS'); go_simp
        try with_reducible rfl
      simp only [Act.put, List.setIfInBounds_toArray, List.set_cons_zero, List.set_cons_succ]
      refine plan_take 13 (v := ?_) rfl (by kernel_rfl) (by kernel_rfl) (by kernel_rfl) (fun _ _ _ h => h) (by rfl) hS0 (fun w' hS' => ?_) ?_
      rotate_left
      · (try dsimp only at hS'); go_simp
        try with_reducible rfl
      simp only [Act.put, List.setIfInBounds_toArray, List.set_cons_zero, List.set_cons_succ]
      refine plan_take 14 (v := ?_) rfl (by kernel_rfl) (by kernel_rfl) (by kernel_rfl) (fun _ _ _ h => h) (by rfl) hS0 (fun w' hS' => ?_) ?_
      rotate_left
      · (try dsimp only at hS'); go_simp
        try with_reducible rfl
      simp only [Act.put, List.setIfInBounds_toArray, List.set_cons_zero, List.set_cons_succ]
      refine plan_take 15 (v := ?_) rfl (by kernel_rfl) (by kernel_rfl) (by kernel_rfl) (fun _ _ _ h => h) (by rfl) hS0 (fun w' hS' => ?_) ?_
      rotate_left
      · (try dsimp only at hS'); go_simp
        try with_reducible rfl
      simp only [Act.put, List.setIfInBounds_toArray, List.set_cons_zero, List.set_cons_succ]
      refine plan_take 16 (v := ?_) rfl (by kernel_rfl) (by kernel_rfl) (by kernel_rfl) (fun _ _ _ h => h) (by rfl) hS0 (fun w' hS' => ?_) ?_
      rotate_left
      · (try dsimp only at hS'); go_simp
        try with_reducible rfl
      simp only [Act.put, List.setIfInBounds_toArray, List.set_cons_zero, List.set_cons_succ]
      refine plan_step 9 rfl (by kernel_rfl) (fun K hK => ?_)
      go_wp2_with fail
      refine (rsum_c _ (l.take q) _ (R1.out.keep0 hS0) HLT.out).mono ?_
      rintro e w1 ⟨r1, rfl, h1, f1, n1⟩
      obtain ⟨a3, m3, c3, rfl⟩ := h1.form
      have H1 := hid h1
      have F1 := hid (F0.and hS0 f1)
      clear h1 f1 n1 hcv hS0
      go_wp2_with fail
      have hS1 : Fr F0 w1 w1 := Fr.refl _ _
      have hcv : ∀ w' : World, Fr F0 w1 w' → (convert 25 9 (.slice a3 m3 c3)).run Try.prog w' = .ok (.string ⟨(sha (l.take q)).toArray⟩) w' := fun w' f => run_strB w' 25 9 5 Try.underlying25 Try.underlying5 str_ty _ _ (H1.out.rd.keep0 f)
      refine hK (fun w' => Fr F0 w1 w') _ _ (fun _ h => F0.and F1.out h) hS1 ?_
      clear hK K
      refine plan_take 10 (v := ?_) rfl (by kernel_rfl) (by kernel_rfl) (by kernel_rfl) (fun _ _ _ h => h) (by rfl) hS1 (fun w' hS' => ?_) ?_
      rotate_left
      · (try dsimp only at hS'); go_simp
        try with_reducible rfl
      simp only [Act.put, List.setIfInBounds_toArray, List.set_cons_zero, List.set_cons_succ]
      refine plan_take 17 (v := ?_) rfl (by kernel_rfl) (by kernel_rfl) (by kernel_rfl) (fun _ _ _ h => h) (by rfl) hS1 (fun w' hS' => ?_) ?_
      rotate_left
      · (try dsimp only at hS'); go_simp
        try with_reducible rfl
      simp only [Act.put, List.setIfInBounds_toArray, List.set_cons_zero, List.set_cons_succ]
      refine plan_take 18 (v := ?_) rfl (by kernel_rfl) (by kernel_rfl) (by kernel_rfl) (fun _ _ _ h => h) (by rfl) hS1 (fun w' hS' => ?_) ?_
      rotate_left
      · (try dsimp only at hS'); go_simp
        try with_reducible rfl
      simp only [Act.put, List.setIfInBounds_toArray, List.set_cons_zero, List.set_cons_succ]
      refine plan_done (by kernel_rfl) ?_ _
      clear hcv hS1
      go_wp2_with fail
      go_ret2
      exact ⟨_, by rw [HO.out]; rfl, by rw [HO.out]; exact Rd.nil _, F1.out, by intro k hk; simp [Value.ownBlock] at hk⟩

end Go.Proofs.Ytfalaopljodmnaa
