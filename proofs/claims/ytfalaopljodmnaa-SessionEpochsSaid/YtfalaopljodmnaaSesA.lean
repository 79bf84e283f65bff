/- session: words; frame, read, Peek. -/
import Derived.Test.YtfalaopljodmnaaVw
namespace Go.Proofs.Ytfalaopljodmnaa
open Go.RowKit

/-- Bytes that are kept: the block they lie in is one of bytes. -/
def Rt (W : World) (v : Value) (l : List UInt8) : Prop := Rd W v l ∧ ∀ q, rblk v = some q → ∃ cs f, W.heap[q]? = some (.cells cs 5 f)

theorem Rt.of_ob {W : World} {v : Value} {l : List UInt8} (h : Ob W 5 v l) : Rt W v l := by
  refine ⟨h.rd, fun q hq => ?_⟩
  rcases h.2 with ⟨rfl, _⟩ | ⟨g, o, c, cur, f, rfl, _, _, h3, _⟩
  · simp [rblk] at hq
  · have := rblk_own hq
    simp [Value.ownBlock] at this
    subst this
    exact ⟨cur, f, h3⟩

theorem Rt.nil (W : World) : Rt W (.slice none 0 0) [] := ⟨Rd.nil W, fun q hq => by simp [rblk] at hq⟩

theorem Rt.keep {S : Nat → Prop} {W W' : World} {v : Value} {l : List UInt8} (h : Rt W v l) (f : Fr S W W') (hS : ∀ q cs fz, S q → W.heap[q]? = some (.cells cs 5 fz) → False) : Rt W' v l := by
  have hn : ∀ q, rblk v = some q → ¬ S q := fun q hq hs => let ⟨cs, fz, hc⟩ := h.2 q hq; hS q cs fz hs hc
  exact ⟨h.1.keepR f hn, fun q hq => let ⟨cs, fz, hc⟩ := h.2 q hq; ⟨cs, fz, f.heap hc (hn q hq)⟩⟩

theorem Rt.keep0 {W W' : World} {v : Value} {l : List UInt8} (h : Rt W v l) (f : Fr F0 W W') : Rt W' v l := h.keep f (fun _ _ _ e _ => e)

/-- A frame's bytes, not sealed. -/
def frameI (epoch peer seq have_ : Nat) (b : List UInt8) : List UInt8 := leB 4 epoch ++ (leB 4 peer ++ (leB 4 seq ++ (leB 4 have_ ++ (leB 4 b.length ++ b))))

theorem frameI_len (epoch peer seq have_ : Nat) (b : List UInt8) : (frameI epoch peer seq have_ b).length = b.length + 20 := by simp [frameI, leB_length]; omega

/-- What frame reads of a session. -/
def SH (W : World) (sb : Nat) (epoch peer have_ : Int) : Prop :=
  W.cell? ⟨sb, 0, none⟩ = some (.int .i64 epoch) ∧ W.cell? ⟨sb, 4, none⟩ = some (.int .i64 peer) ∧ W.cell? ⟨sb, 5, none⟩ = some (.int .i64 have_)

theorem SH.keep0 {W W' : World} {sb : Nat} {epoch peer have_ : Int} (h : SH W sb epoch peer have_) (f : Fr F0 W W') : SH W' sb epoch peer have_ :=
  ⟨(f.cell (p := ⟨sb, 0, none⟩) (block_lt_of_cell h.1) (fun e => e)).trans h.1, (f.cell (p := ⟨sb, 4, none⟩) (block_lt_of_cell h.2.1) (fun e => e)).trans h.2.1, (f.cell (p := ⟨sb, 5, none⟩) (block_lt_of_cell h.2.2) (fun e => e)).trans h.2.2⟩

set_option maxRecDepth 100000 in
set_option maxHeartbeats 1600000 in
theorem frame_c (sb : Nat) (epoch peer seq have_ : Int) (v : Value) (b : List UInt8) (w : World) (hs : SH w sb epoch peer have_) (hr : Rd w v b) (hl : b.length ≤ 40000)
    (e0 : 0 ≤ epoch ∧ epoch ≤ 2147483647) (p0 : 0 ≤ peer ∧ peer ≤ 2147483647) (s0 : 0 ≤ seq ∧ seq ≤ 2147483647) (h0 : 0 ≤ have_ ∧ have_ ≤ 2147483647) :
    Calls Try.prog 76 #[.pointer (some ⟨sb, 0, none⟩), .int .i64 seq, v] w fun e w' => ∃ r, e = .returned r ∧ Ob w' 5 r (sealed (frameI epoch.toNat peer.toNat seq.toNat have_.toNat b)) ∧ Fr F0 w w' ∧ New w r := by
  obtain ⟨ao, c, rfl, _⟩ := hr.form
  have HR := hid hr
  have HL := hid hl
  have HSH := hid hs
  have HP := hid (And.intro e0 (And.intro p0 (And.intro s0 h0)))
  clear hr hl e0 p0 s0 h0 hs
  go_enter Try.func76, Try.ntmps76
  go_wp2_with fail
  refine plan_start (fun w' => SH w' sb epoch peer have_) (by kernel_rfl) ?_
  have hS0 : SH w.drew sb epoch peer have_ := HSH.out
  have q0 : ∀ w' : World, SH w' sb epoch peer have_ → w'.cell? ⟨sb, 0, none⟩ = some (.int .i64 epoch) := fun _ h => h.1
  have q4 : ∀ w' : World, SH w' sb epoch peer have_ → w'.cell? ⟨sb, 4, none⟩ = some (.int .i64 peer) := fun _ h => h.2.1
  have q5 : ∀ w' : World, SH w' sb epoch peer have_ → w'.cell? ⟨sb, 5, none⟩ = some (.int .i64 have_) := fun _ h => h.2.2
  refine plan_take 1 (v := ?_) rfl (by kernel_rfl) (by kernel_rfl) (by kernel_rfl) (fun _ _ _ h => h) (by rfl) hS0 (fun w' hS' => ?_) ?_
  rotate_left
  · (try dsimp only at hS'); go_simp
    try with_reducible rfl
  simp only [Act.put, List.setIfInBounds_toArray, List.set_cons_zero, List.set_cons_succ]
  refine plan_take 2 (v := ?_) rfl (by kernel_rfl) (by kernel_rfl) (by kernel_rfl) (fun _ _ _ h => h) (by rfl) hS0 (fun w' hS' => ?_) ?_
  rotate_left
  · (try dsimp only at hS'); go_simp
    try with_reducible rfl
  simp only [Act.put, List.setIfInBounds_toArray, List.set_cons_zero, List.set_cons_succ]
  refine plan_take 3 (v := ?_) rfl (by kernel_rfl) (by kernel_rfl) (by kernel_rfl) (fun _ _ _ h => h) (by rfl) hS0 (fun w' hS' => ?_) ?_
  rotate_left
  · (try dsimp only at hS'); go_simp
    try with_reducible rfl
  simp only [Act.put, List.setIfInBounds_toArray, List.set_cons_zero, List.set_cons_succ]
  refine plan_take 4 (v := ?_) rfl (by kernel_rfl) (by kernel_rfl) (by kernel_rfl) (fun _ _ _ h => h) (by rfl) hS0 (fun w' hS' => ?_) ?_
  rotate_left
  · (try dsimp only at hS'); go_simp
    try with_reducible rfl
  simp only [Act.put, List.setIfInBounds_toArray, List.set_cons_zero, List.set_cons_succ]
  refine plan_take 6 (v := ?_) rfl (by kernel_rfl) (by kernel_rfl) (by kernel_rfl) (fun _ _ _ h => h) (by rfl) hS0 (fun w' hS' => ?_) ?_
  rotate_left
  · (try dsimp only at hS'); go_simp
    try with_reducible rfl
  simp only [Act.put, List.setIfInBounds_toArray, List.set_cons_zero, List.set_cons_succ]
  refine plan_take 7 (v := ?_) rfl (by kernel_rfl) (by kernel_rfl) (by kernel_rfl) (fun _ _ _ h => h) (by rfl) hS0 (fun w' hS' => ?_) ?_
  rotate_left
  · (try dsimp only at hS'); go_simp
    try with_reducible rfl
  simp only [Act.put, List.setIfInBounds_toArray, List.set_cons_zero, List.set_cons_succ]
  refine plan_take 8 (v := ?_) rfl (by kernel_rfl) (by kernel_rfl) (by kernel_rfl) (fun _ _ _ h => h) (by rfl) hS0 (fun w' hS' => ?_) ?_
  rotate_left
  · (try dsimp only at hS'); go_simp
    try with_reducible rfl
  simp only [Act.put, List.setIfInBounds_toArray, List.set_cons_zero, List.set_cons_succ]
  refine plan_take 9 (v := ?_) rfl (by kernel_rfl) (by kernel_rfl) (by kernel_rfl) (fun _ _ _ h => h) (by rfl) hS0 (fun w' hS' => ?_) ?_
  rotate_left
  · (try dsimp only at hS'); go_simp
    try with_reducible rfl
  simp only [Act.put, List.setIfInBounds_toArray, List.set_cons_zero, List.set_cons_succ]
  refine plan_take 11 (v := ?_) rfl (by kernel_rfl) (by kernel_rfl) (by kernel_rfl) (fun _ _ _ h => h) (by rfl) hS0 (fun w' hS' => ?_) ?_
  rotate_left
  · (try dsimp only at hS'); go_simp
    try with_reducible rfl
  simp only [Act.put, List.setIfInBounds_toArray, List.set_cons_zero, List.set_cons_succ]
  refine plan_take 13 (v := ?_) rfl (by kernel_rfl) (by kernel_rfl) (by kernel_rfl) (fun _ _ _ h => h) (by rfl) hS0 (fun w' hS' => ?_) ?_
  rotate_left
  · (try dsimp only at hS'); go_simp
    try with_reducible rfl
  simp only [Act.put, List.setIfInBounds_toArray, List.set_cons_zero, List.set_cons_succ]
  refine plan_take 14 (v := ?_) rfl (by kernel_rfl) (by kernel_rfl) (by kernel_rfl) (fun _ _ _ h => h) (by rfl) hS0 (fun w' hS' => ?_) ?_
  rotate_left
  · (try dsimp only at hS'); go_simp
    try with_reducible rfl
  simp only [Act.put, List.setIfInBounds_toArray, List.set_cons_zero, List.set_cons_succ]
  refine plan_take 15 (v := ?_) rfl (by kernel_rfl) (by kernel_rfl) (by kernel_rfl) (fun _ _ _ h => h) (by rfl) hS0 (fun w' hS' => ?_) ?_
  rotate_left
  · (try dsimp only at hS'); go_simp
    try with_reducible rfl
  simp only [Act.put, List.setIfInBounds_toArray, List.set_cons_zero, List.set_cons_succ]
  refine plan_take 16 (v := ?_) rfl (by kernel_rfl) (by kernel_rfl) (by kernel_rfl) (fun _ _ _ h => h) (by rfl) hS0 (fun w' hS' => ?_) ?_
  rotate_left
  · (try dsimp only at hS'); go_simp
    try with_reducible rfl
  simp only [Act.put, List.setIfInBounds_toArray, List.set_cons_zero, List.set_cons_succ]
  refine plan_take 18 (v := ?_) rfl (by kernel_rfl) (by kernel_rfl) (by kernel_rfl) (fun _ _ _ h => h) (by rfl) hS0 (fun w' hS' => ?_) ?_
  rotate_left
  · (try dsimp only at hS'); go_simp
    try with_reducible rfl
  simp only [Act.put, List.setIfInBounds_toArray, List.set_cons_zero, List.set_cons_succ]
  clear hS0 q0 q4 q5
  refine plan_step 0 rfl (by kernel_rfl) (fun K hK => ?_)
  go_wp2_with fail
  have HW1 : Hid (WW w (w.alloc (.cells #[.slice none 0 0, .bool false] 48)).drew w.heap.size []) := hid (WW.start (heap_alloc_last w _) (((Fr.refl _ _).alloc _).drew) (Nat.le_refl _))
  refine hK _ _ _ (fun _ h => h) (HSH.out.keep0 HW1.out.fr) ?_
  clear hK K
  refine plan_step 5 rfl (by kernel_rfl) (fun K hK => ?_)
  go_wp2_with fail
  refine (ww_num w _ w.heap.size [] epoch HW1.out HP.out.1.1 HP.out.1.2 (by simp)).mono ?_
  rintro e W2 ⟨rfl, h2⟩
  have HW2 : Hid (WW w W2 w.heap.size (leB 4 epoch.toNat)) := hid (by simpa using h2)
  clear h2 HW1
  go_wp2_with fail
  refine hK _ _ _ (fun _ h => h) (HSH.out.keep0 HW2.out.fr) ?_
  clear hK K
  refine plan_step 10 rfl (by kernel_rfl) (fun K hK => ?_)
  go_wp2_with fail
  refine (ww_num w _ w.heap.size (leB 4 epoch.toNat) peer HW2.out HP.out.2.1.1 HP.out.2.1.2 (by simp [leB_length])).mono ?_
  rintro e W3 ⟨rfl, h3⟩
  have HW3 : Hid (WW w W3 w.heap.size (leB 4 epoch.toNat ++ leB 4 peer.toNat)) := hid (by simpa using h3)
  clear h3 HW2
  go_wp2_with fail
  refine hK _ _ _ (fun _ h => h) (HSH.out.keep0 HW3.out.fr) ?_
  clear hK K
  refine plan_step 12 rfl (by kernel_rfl) (fun K hK => ?_)
  go_wp2_with fail
  refine (ww_num w _ w.heap.size (leB 4 epoch.toNat ++ leB 4 peer.toNat) seq HW3.out HP.out.2.2.1.1 HP.out.2.2.1.2 (by simp [leB_length])).mono ?_
  rintro e W4 ⟨rfl, h4⟩
  have HW4 : Hid (WW w W4 w.heap.size (leB 4 epoch.toNat ++ (leB 4 peer.toNat ++ leB 4 seq.toNat))) := hid (by simpa using h4)
  clear h4 HW3
  go_wp2_with fail
  refine hK _ _ _ (fun _ h => h) (HSH.out.keep0 HW4.out.fr) ?_
  clear hK K
  refine plan_step 17 rfl (by kernel_rfl) (fun K hK => ?_)
  go_wp2_with fail
  refine (ww_num w _ w.heap.size (leB 4 epoch.toNat ++ (leB 4 peer.toNat ++ leB 4 seq.toNat)) have_ HW4.out HP.out.2.2.2.1 HP.out.2.2.2.2 (by simp [leB_length])).mono ?_
  rintro e W5 ⟨rfl, h5⟩
  have HW5 : Hid (WW w W5 w.heap.size (leB 4 epoch.toNat ++ (leB 4 peer.toNat ++ (leB 4 seq.toNat ++ leB 4 have_.toNat)))) := hid (by simpa using h5)
  clear h5 HW4
  go_wp2_with fail
  refine hK _ _ _ (fun _ h => h) (HSH.out.keep0 HW5.out.fr) ?_
  clear hK K
  refine plan_step 19 rfl (by kernel_rfl) (fun K hK => ?_)
  go_wp2_with fail
  refine (ww_bytes w _ w.heap.size (leB 4 epoch.toNat ++ (leB 4 peer.toNat ++ (leB 4 seq.toNat ++ leB 4 have_.toNat))) b _ HW5.out HR.out (by have := HL.out; omega) (by simp [leB_length])).mono ?_
  rintro e W6 ⟨rfl, h6⟩
  have HW6 : Hid (WW w W6 w.heap.size (frameI epoch.toNat peer.toNat seq.toNat have_.toNat b)) := hid (by simpa [frameI] using h6)
  clear h6 HW5
  go_wp2_with fail
  refine hK _ _ _ (fun _ h => h) (HSH.out.keep0 HW6.out.fr) ?_
  clear hK K
  refine plan_step 20 rfl (by kernel_rfl) (fun K hK => ?_)
  go_wp2_with fail
  refine (ww_done w _ w.heap.size _ HW6.out (by rw [frameI_len]; have := HL.out; omega)).mono ?_
  rintro e W7 ⟨v7, rfl, h7, f7, n7⟩
  obtain ⟨a7, m7, c7, rfl⟩ := h7.form
  have H7 := hid h7.rd
  have F7 := hid f7
  clear h7 f7 n7 HW6
  go_wp2_with fail
  have hS0 := HSH.out.keep0 F7.out
  refine hK _ _ _ (fun _ h => h) hS0 ?_
  clear hK K
  refine plan_take 21 (v := ?_) rfl (by kernel_rfl) (by kernel_rfl) (by kernel_rfl) (fun _ _ _ h => h) (by rfl) hS0 (fun w' hS' => ?_) ?_
  rotate_left
  · (try dsimp only at hS'); go_simp
    try with_reducible rfl
  simp only [Act.put, List.setIfInBounds_toArray, List.set_cons_zero, List.set_cons_succ]
  refine plan_take 22 (v := ?_) rfl (by kernel_rfl) (by kernel_rfl) (by kernel_rfl) (fun _ _ _ h => h) (by rfl) hS0 (fun w' hS' => ?_) ?_
  rotate_left
  · (try dsimp only at hS'); go_simp
    try with_reducible rfl
  simp only [Act.put, List.setIfInBounds_toArray, List.set_cons_zero, List.set_cons_succ]
  refine plan_take 23 (v := ?_) rfl (by kernel_rfl) (by kernel_rfl) (by kernel_rfl) (fun _ _ _ h => h) (by rfl) hS0 (fun w' hS' => ?_) ?_
  rotate_left
  · (try dsimp only at hS'); go_simp
    try with_reducible rfl
  simp only [Act.put, List.setIfInBounds_toArray, List.set_cons_zero, List.set_cons_succ]
  refine plan_take 24 (v := ?_) rfl (by kernel_rfl) (by kernel_rfl) (by kernel_rfl) (fun _ _ _ h => h) (by rfl) hS0 (fun w' hS' => ?_) ?_
  rotate_left
  · (try dsimp only at hS'); go_simp
    try with_reducible rfl
  simp only [Act.put, List.setIfInBounds_toArray, List.set_cons_zero, List.set_cons_succ]
  refine plan_take 25 (v := ?_) rfl (by kernel_rfl) (by kernel_rfl) (by kernel_rfl) (fun _ _ _ h => h) (by rfl) hS0 (fun w' hS' => ?_) ?_
  rotate_left
  · (try dsimp only at hS'); go_simp
    try with_reducible rfl
  simp only [Act.put, List.setIfInBounds_toArray, List.set_cons_zero, List.set_cons_succ]
  refine plan_done (by kernel_rfl) ?_ _
  clear hS0
  go_wp2_with fail
  refine (seal_c _ _ _ H7.out (by rw [frameI_len]; have := HL.out; omega)).mono ?_
  rintro e W8 ⟨r8, rfl, h8, f8, n8⟩
  obtain ⟨a8, m8, c8, rfl⟩ := h8.form
  have H8 := hid (And.intro h8 (And.intro (F0.and F7.out f8) (fun k hk => Nat.le_trans F7.out.size (n8 k hk) : New w (.slice a8 m8 c8))))
  clear h8 f8 n8
  go_wp2_with fail
  go_ret
  exact ⟨_, rfl, H8.out⟩


/-- What a frame says. -/
structure Flds where
  epoch : Nat
  known : Nat
  seq : Nat
  ack : Nat
  b : List UInt8

/-- Four numbers, and bytes. -/
def rd1 (x : List UInt8) := rnum x 0
def rd2 (x : List UInt8) := rnum (rd1 x).2.1 (rd1 x).2.2
def rd3 (x : List UInt8) := rnum (rd2 x).2.1 (rd2 x).2.2
def rd4 (x : List UInt8) := rnum (rd3 x).2.1 (rd3 x).2.2
def rd5 (x : List UInt8) := rbytes (rd4 x).2.1 (rd4 x).2.2 40000

def fldOf (x : List UInt8) : Option Flds :=
  if (rd5 x).2.2 = 0 ∧ (rd5 x).2.1 = [] ∧ 0 < (rd1 x).1 ∧ (0 < (rd3 x).1 ∨ (rd5 x).1 = []) then some ⟨(rd1 x).1, (rd2 x).1, (rd3 x).1, (rd4 x).1, (rd5 x).1⟩ else none

/-- What a frame says, if it is one. -/
def rdF (l : List UInt8) : Option Flds := (opened l).bind fldOf

/-- What read tells. -/
def ReadTo (w : World) (o : Option Flds) (e : Ending) (w' : World) : Prop :=
  match o with
  | some F => ∃ v, e = .returned (.tuple #[.agg #[.int .i64 (F.epoch : Int), .int .i64 (F.known : Int), .int .i64 (F.seq : Int), .int .i64 (F.ack : Int), v], .bool true]) ∧ Rt w' v F.b ∧ Fr F0 w w'
  | none => ∃ (a b c d : Int) (v : Value) (n : List UInt8), e = .returned (.tuple #[.agg #[.int .i64 a, .int .i64 b, .int .i64 c, .int .i64 d, v], .bool false]) ∧ Rd w' v n ∧ Fr F0 w w'

theorem all5 (a b c d e : Value) (ha : a.oneCell' = true) (hb : b.oneCell' = true) (hc : c.oneCell' = true) (hd : d.oneCell' = true) (he : e.oneCell' = true) : (#[a, b, c, d, e] : Array Value).all (·.oneCell') = true := by
  rw [Array.all_eq_true_iff_forall_mem]
  intro x hx
  simp only [List.mem_toArray, List.mem_cons, List.not_mem_nil, or_false] at hx
  rcases hx with rfl | rfl | rfl | rfl | rfl <;> assumption

/-- A Reader, as Err and Left look at it. -/
def RLite (W : World) (rb n : Nat) (e : Int) : Prop := ∃ ao c, W.heap[rb]? = some (.cells #[.slice ao n c, .int .i64 e] 108 (0, 0))

theorem RLite.of {W : World} {rb : Nat} {v : Value} {l : List UInt8} {e : Int} (h : Rr W rb v l e) : RLite W rb l.length e := by
  obtain ⟨ao, c, rfl, _⟩ := h.rd.form
  exact ⟨ao, c, h.blk⟩

theorem RLite.keep {S : Nat → Prop} {W W' : World} {rb n : Nat} {e : Int} (h : RLite W rb n e) (f : Fr S W W') (hn : ¬ S rb) : RLite W' rb n e :=
  let ⟨ao, c, hb⟩ := h; ⟨ao, c, f.heap hb hn⟩

theorem rerr_l (rb n : Nat) (e : Int) (w : World) (h : RLite w rb n e) : Calls Try.prog 30 #[.pointer (some ⟨rb, 0, none⟩)] w fun en w' => en = .returned (.int .i64 e) ∧ w = w' := by
  obtain ⟨ao, c, hb⟩ := h
  have hc : w.cell? ⟨rb, 1, none⟩ = some (.int .i64 e) := by rw [cell_at hb]; rfl
  clear hb
  go_enter Try.func30, Try.ntmps30
  go_wp2_with fail
  go_ret
  exact ⟨rfl, rfl⟩

theorem rleft_l (rb n : Nat) (w : World) (h : RLite w rb n 0) : Calls Try.prog 29 #[.pointer (some ⟨rb, 0, none⟩)] w fun en w' => en = .returned (.int .i64 (n : Int)) ∧ w = w' := by
  have HH := hid h
  obtain ⟨ao, c, hb⟩ := h
  have hc : w.cell? ⟨rb, 0, none⟩ = some (.slice ao n c) := by rw [cell_at hb]; rfl
  clear hb
  go_enter Try.func29, Try.ntmps29
  go_wp2_with fail
  refine (rerr_l rb n 0 _ HH.out).mono ?_
  rintro e w1 ⟨rfl, rfl⟩
  go_wp2_with fail
  go_ret
  exact ⟨rfl, rfl⟩

theorem info121 : (Try.prog.info? 121).map (·.size) = some 5 := by kernel_rfl

theorem rd_len (x : List UInt8) : (rd1 x).2.1.length ≤ x.length ∧ (rd2 x).2.1.length ≤ x.length ∧ (rd3 x).2.1.length ≤ x.length ∧ (rd4 x).2.1.length ≤ x.length := by
  have h1 := rnum_len x 0
  have h2 := rnum_len (rd1 x).2.1 (rd1 x).2.2
  have h3 := rnum_len (rd2 x).2.1 (rd2 x).2.2
  have h4 := rnum_len (rd3 x).2.1 (rd3 x).2.2
  unfold rd4 rd3 rd2 rd1 at *
  omega

/-- Opened: the error hidden. -/
theorem open_o (v : Value) (l : List UInt8) (w : World) (hr : Rd w v l) (hl : l.length ≤ 35184372088832) :
    Calls Try.prog 57 #[v] w fun e w' => ∃ r, e = .returned (.tuple #[r, .int .i64 (oer (opened l) 2)]) ∧ Ob w' 5 r ((opened l).getD []) ∧ Fr F0 w w' ∧ New w r := open_c v l w hr hl

theorem opened_getD_len (l : List UInt8) : ((opened l).getD []).length ≤ l.length := by
  cases h : opened l with
  | none => simp
  | some x => have := opened_len h; simp; omega

set_option maxRecDepth 100000 in
set_option maxHeartbeats 6400000 in
theorem read_c (v : Value) (l : List UInt8) (w : World) (hr : Rd w v l) (hl : l.length ≤ 35184372088832) :
    Calls Try.prog 72 #[v] w fun e w' => ReadTo w (rdF l) e w' := by
  have HR := hid hr
  have HL := hid hl
  have HXL := hid (Nat.le_trans (opened_getD_len l) hl)
  have HO : Hid (rdF l = if oer (opened l) 2 = 0 then fldOf ((opened l).getD []) else none) := hid (by
    unfold rdF
    cases opened l <;> simp [oer])
  clear hr hl
  go_enter Try.func72, Try.ntmps72
  go_wp2_with fail
  refine (open_o v l _ (HR.out.keep0 ((Fr.refl _ _).alloc _)) HL.out).mono ?_
  rintro e w1 ⟨r1, rfl, h1, f1, n1⟩
  obtain ⟨a1, m1, c1, rfl⟩ := h1.form
  have H1 := hid h1.rd
  have F1 := hid f1
  clear h1 f1 n1
  have HB0 := hid (heap_alloc_last w (.cells #[.int .i64 0, .int .i64 0, .int .i64 0, .int .i64 0, .slice none 0 0] 121))
  have HF0 : Hid (Fr F0 w (w.alloc (.cells #[.int .i64 0, .int .i64 0, .int .i64 0, .int .i64 0, .slice none 0 0] 121))) := hid ((Fr.refl _ _).alloc _)
  have HS0 : Hid (w.heap.size < (w.alloc (.cells #[.int .i64 0, .int .i64 0, .int .i64 0, .int .i64 0, .slice none 0 0] 121)).heap.size) := hid (by simp)
  generalize oer (opened l) 2 = e0 at *
  generalize (opened l).getD [] = x at *
  go_wp2_with fail
  refine (rw_new _ x _ H1.out HXL.out).mono ?_
  rintro e w2 ⟨rb, rfl, h2⟩
  have H2 := hid (h2.from F1.out)
  clear h2 H1 F1
  go_wp2_with fail
  generalize w.alloc (.cells #[.int .i64 0, .int .i64 0, .int .i64 0, .int .i64 0, .slice none 0 0] 121) = w0 at *
  have hl1 := rnum_len x 0
  refine (rw_num _ _ rb x 0 H2.out (by have := HXL.out; omega)).mono ?_
  rintro e w3 ⟨rfl, h3⟩
  generalize hr1 : rnum x 0 = r1 at *
  have R1 := hid hr1
  have H3 := hid h3
  clear h3 H2 hr1
  go_wp2_with fail
  have hl2 := rnum_len r1.2.1 r1.2.2
  refine (rw_num _ _ rb r1.2.1 r1.2.2 H3.out (by have := HXL.out; omega)).mono ?_
  rintro e w4 ⟨rfl, h4⟩
  generalize hr2 : rnum r1.2.1 r1.2.2 = r2 at *
  have R2 := hid hr2
  have H4 := hid h4
  clear h4 H3 hr2
  go_wp2_with fail
  have hl3 := rnum_len r2.2.1 r2.2.2
  refine (rw_num _ _ rb r2.2.1 r2.2.2 H4.out (by have := HXL.out; omega)).mono ?_
  rintro e w5 ⟨rfl, h5⟩
  generalize hr3 : rnum r2.2.1 r2.2.2 = r3 at *
  have R3 := hid hr3
  have H5 := hid h5
  clear h5 H4 hr3
  go_wp2_with fail
  have hl4 := rnum_len r3.2.1 r3.2.2
  refine (rw_num _ _ rb r3.2.1 r3.2.2 H5.out (by have := HXL.out; omega)).mono ?_
  rintro e w6 ⟨rfl, h6⟩
  generalize hr4 : rnum r3.2.1 r3.2.2 = r4 at *
  have R4 := hid hr4
  have H6 := hid h6
  clear h6 H5 hr4
  go_wp2_with fail
  refine (rw_bytes _ _ rb r4.2.1 r4.2.2 40000 H6.out (by have := HXL.out; omega)).mono ?_
  rintro e w7 ⟨v7, rfl, o7, n7, x7, h7, f7⟩
  generalize hr5 : rbytes r4.2.1 r4.2.2 40000 = r5 at *
  have HT : Hid (rdF l = if e0 = 0 ∧ r5.2.2 = 0 ∧ r5.2.1 = [] ∧ 0 < r1.1 ∧ (0 < r3.1 ∨ r5.1 = []) then some ⟨r1.1, r2.1, r3.1, r4.1, r5.1⟩ else none) := hid (by
    rw [HO.out]
    unfold fldOf rd5 rd4 rd3 rd2 rd1
    rw [R1.out, R2.out, R3.out, R4.out, hr5]
    by_cases h : e0 = 0
    · rw [if_pos h]; simp [h]
    · rw [if_neg h, if_neg (fun k => h k.1)])
  obtain ⟨⟨rv, hrv⟩, hfr, hrb⟩ := h7
  obtain ⟨a7, c7, rfl, _⟩ := o7.rd.form
  have HL7 := hid (RLite.of hrv)
  have HB7 : Hid (w7.heap[w.heap.size]? = some (.cells #[.int .i64 0, .int .i64 0, .int .i64 0, .int .i64 0, .slice none 0 0] 121 (0, 0))) := hid (hfr.heap HB0.out (fun e => e))
  have O7 := hid (Rt.of_ob o7)
  have F7 : Hid (Fr F0 w w7) := hid (F0.and HF0.out hfr)
  have HRB : Hid (¬ rb = w.heap.size) := hid (by have := HS0.out; omega)
  obtain ⟨g1, l1, e1⟩ := r1
  obtain ⟨g2, l2, e2⟩ := r2
  obtain ⟨g3, l3, e3⟩ := r3
  obtain ⟨g4, l4, e4⟩ := r4
  obtain ⟨bd, l5, e5⟩ := r5
  dsimp only at *
  clear o7 n7 x7 hrv hfr hrb f7 H6 R1 R2 R3 R4 hr5 HO HB0 HF0 HS0 hl1 hl2 hl3 hl4 HXL HR HL
  have HI := hid info121
  obtain ⟨nb, hnb⟩ : ∃ n, bd.length = n := ⟨_, rfl⟩
  obtain ⟨nl, hnl⟩ : ∃ n, l5.length = n := ⟨_, rfl⟩
  rw [hnb] at O7 ⊢
  rw [hnl] at HL7
  have HNB := hid hnb
  have HNL := hid hnl
  clear hnb hnl
  have HC1 : Hid ((#[.int .i64 (g1 : Int), .int .i64 (g2 : Int), .int .i64 (g3 : Int), .int .i64 (g4 : Int), .slice a7 nb c7] : Array Value).all (·.oneCell') = true) := hid (all5 _ _ _ _ _ rfl rfl rfl rfl rfl)
  go_wp2_with (refine wpList_storeRow rfl 121 (.tmp 2) (.tmp 24) rfl w.heap.size #[.int .i64 0, .int .i64 0, .int .i64 0, .int .i64 0, .slice none 0 0] #[.int .i64 (g1 : Int), .int .i64 (g2 : Int), .int .i64 (g3 : Int), .int .i64 (g4 : Int), .slice a7 nb c7] 121 HB7.out rfl rfl rfl HI.out HC1.out ?_)
  intro w8 hg8 hf8
  have HG8 := hid hg8
  have F8 := hid (F0.there F7.out hf8 (fun i e => by omega))
  have L8 := hid (HL7.out.keep hf8 HRB.out)
  have O8 := hid (O7.out.keep hf8 (fun q cs fz hq hc => by subst hq; rw [HB7.out] at hc; injection hc with hc; injection hc with _ hc; exact absurd hc (by decide)))
  have B8 : Hid (∀ q, rblk (.slice a7 nb c7) = some q → q ≠ w.heap.size) := hid (fun q hq e => by
    obtain ⟨cs, fz, hc⟩ := O7.out.2 q hq
    subst e
    rw [HB7.out] at hc; injection hc with hc; injection hc with _ hc; exact absurd hc (by decide))
  clear hg8 hf8 HL7 O7 HB7 F7
  go_wp2_with fail
  have HQ : Hid (∀ w' : World, w'.heap[w.heap.size]? = some (.cells #[.int .i64 (g1 : Int), .int .i64 (g2 : Int), .int .i64 (g3 : Int), .int .i64 (g4 : Int), .slice a7 nb c7] 121 (0, 0)) →
      w'.cell? ⟨w.heap.size, 0, none⟩ = some (.int .i64 (g1 : Int)) ∧ w'.cell? ⟨w.heap.size, 1, none⟩ = some (.int .i64 (g2 : Int)) ∧ w'.cell? ⟨w.heap.size, 2, none⟩ = some (.int .i64 (g3 : Int)) ∧ w'.cell? ⟨w.heap.size, 3, none⟩ = some (.int .i64 (g4 : Int)) ∧ w'.cell? ⟨w.heap.size, 4, none⟩ = some (.slice a7 nb c7)) :=
    hid (fun w' h => ⟨by rw [cell_at h]; rfl, by rw [cell_at h]; rfl, by rw [cell_at h]; rfl, by rw [cell_at h]; rfl, by rw [cell_at h]; rfl⟩)
  by_cases he0 : e0 = 0
  · subst he0
    by_cases he5 : e5 = 0
    · subst he5
      cases nl with
      | succ ml =>
        have k1 : ((ml : Int) + 1 == 0) = false := by rw [beq_eq_false_iff_ne]; omega
        have k2 : decide ((ml : Int) + 1 = 0) = false := by simp; omega
        have HF : Hid (rdF l = none) := hid (by rw [HT.out, if_neg (fun h => by have := HNL.out; rw [h.2.2.1] at this; simp at this)])
        refine plan_start (fun w' => w'.heap[w.heap.size]? = some (.cells #[.int .i64 (g1 : Int), .int .i64 (g2 : Int), .int .i64 (g3 : Int), .int .i64 (g4 : Int), .slice a7 nb c7] 121 (0, 0))) (by kernel_rfl) ?_
        have hS0 := HG8.out
        have q0 := fun w' h => (HQ.out w' h).1
        have q1 := fun w' h => (HQ.out w' h).2.1
        have q2 := fun w' h => (HQ.out w' h).2.2.1
        have q3 := fun w' h => (HQ.out w' h).2.2.2.1
        have q4 := fun w' h => (HQ.out w' h).2.2.2.2
        have hS0 : (fun w' => w'.heap[w.heap.size]? = some (.cells #[.int .i64 (g1 : Int), .int .i64 (g2 : Int), .int .i64 (g3 : Int), .int .i64 (g4 : Int), .slice a7 nb c7] 121 (0, 0))) w8.drew := HG8.out
        refine plan_take 0 (v := ?_) rfl (by kernel_rfl) (by kernel_rfl) (by kernel_rfl) (fun _ _ _ h => h) (by rfl) hS0 (fun w' hS' => ?_) ?_
        rotate_left
        · (try dsimp only at hS'); go_simp
          try with_reducible rfl
        simp only [Act.put, List.setIfInBounds_toArray, List.set_cons_zero, List.set_cons_succ]
        refine plan_take 1 (v := ?_) rfl (by kernel_rfl) (by kernel_rfl) (by kernel_rfl) (fun _ _ _ h => h) (by rfl) hS0 (fun w' hS' => ?_) ?_
        rotate_left
        · (try dsimp only at hS'); go_simp
          try with_reducible rfl
        simp only [Act.put, List.setIfInBounds_toArray, List.set_cons_zero, List.set_cons_succ]
        refine plan_take 2 (v := ?_) rfl (by kernel_rfl) (by kernel_rfl) (by kernel_rfl) (fun _ _ _ h => h) (by rfl) hS0 (fun w' hS' => ?_) ?_
        rotate_left
        · (try dsimp only at hS'); go_simp
          try with_reducible rfl
        simp only [Act.put, List.setIfInBounds_toArray, List.set_cons_zero, List.set_cons_succ]
        refine plan_take 3 (v := ?_) rfl (by kernel_rfl) (by kernel_rfl) (by kernel_rfl) (fun _ _ _ h => h) (by rfl) hS0 (fun w' hS' => ?_) ?_
        rotate_left
        · (try dsimp only at hS'); go_simp
          try with_reducible rfl
        simp only [Act.put, List.setIfInBounds_toArray, List.set_cons_zero, List.set_cons_succ]
        refine plan_take 4 (v := ?_) rfl (by kernel_rfl) (by kernel_rfl) (by kernel_rfl) (fun _ _ _ h => h) (by rfl) hS0 (fun w' hS' => ?_) ?_
        rotate_left
        · (try dsimp only at hS'); go_simp
          try with_reducible rfl
        simp only [Act.put, List.setIfInBounds_toArray, List.set_cons_zero, List.set_cons_succ]
        clear hS0 q0 q1 q2 q3 q4
        refine plan_step 5 rfl (by kernel_rfl) (fun K hK => ?_)
        go_wp2_with fail
        refine (rerr_l rb _ _ _ (L8.out.keep (Fr.refl F0 w8).drew (fun e => e))).mono ?_
        rintro e w9 ⟨rfl, rfl⟩
        go_wp2_with fail
        refine hK _ _ _ (fun _ h => h) HG8.out ?_
        clear hK K
        have q0 := fun w' h => (HQ.out w' h).1
        have q1 := fun w' h => (HQ.out w' h).2.1
        have q2 := fun w' h => (HQ.out w' h).2.2.1
        have q3 := fun w' h => (HQ.out w' h).2.2.2.1
        have q4 := fun w' h => (HQ.out w' h).2.2.2.2
        have hS0 : (fun w' => w'.heap[w.heap.size]? = some (.cells #[.int .i64 (g1 : Int), .int .i64 (g2 : Int), .int .i64 (g3 : Int), .int .i64 (g4 : Int), .slice a7 nb c7] 121 (0, 0))) w8.drew := HG8.out
        refine plan_take 6 (v := ?_) rfl (by kernel_rfl) (by kernel_rfl) (by kernel_rfl) (fun _ _ _ h => h) (by rfl) hS0 (fun w' hS' => ?_) ?_
        rotate_left
        · (try dsimp only at hS'); go_simp
          try with_reducible rfl
        simp only [Act.put, List.setIfInBounds_toArray, List.set_cons_zero, List.set_cons_succ]
        refine plan_take 7 (v := ?_) rfl (by kernel_rfl) (by kernel_rfl) (by kernel_rfl) (fun _ _ _ h => h) (by rfl) hS0 (fun w' hS' => ?_) ?_
        rotate_left
        · (try dsimp only at hS'); go_simp
          try with_reducible rfl
        simp only [Act.put, List.setIfInBounds_toArray, List.set_cons_zero, List.set_cons_succ]
        refine plan_take 8 (v := ?_) rfl (by kernel_rfl) (by kernel_rfl) (by kernel_rfl) (fun _ _ _ h => h) (by rfl) hS0 (fun w' hS' => ?_) ?_
        rotate_left
        · (try dsimp only at hS'); go_simp
          try with_reducible rfl
        simp only [Act.put, List.setIfInBounds_toArray, List.set_cons_zero, List.set_cons_succ]
        refine plan_take 9 (v := ?_) rfl (by kernel_rfl) (by kernel_rfl) (by kernel_rfl) (fun _ _ _ h => h) (by rfl) hS0 (fun w' hS' => ?_) ?_
        rotate_left
        · (try dsimp only at hS'); go_simp
          try with_reducible rfl
        simp only [Act.put, List.setIfInBounds_toArray, List.set_cons_zero, List.set_cons_succ]
        clear hS0 q0 q1 q2 q3 q4
        refine plan_step 10 rfl (by kernel_rfl) (fun K hK => ?_)
        go_wp2_with fail
        refine (rleft_l rb _ _ (L8.out.keep (Fr.refl F0 w8).drew (fun e => e))).mono ?_
        rintro e w9 ⟨rfl, rfl⟩
        go_wp2_with fail
        refine hK _ _ _ (fun _ h => h) HG8.out ?_
        clear hK K
        have q0 := fun w' h => (HQ.out w' h).1
        have q1 := fun w' h => (HQ.out w' h).2.1
        have q2 := fun w' h => (HQ.out w' h).2.2.1
        have q3 := fun w' h => (HQ.out w' h).2.2.2.1
        have q4 := fun w' h => (HQ.out w' h).2.2.2.2
        have hS0 : (fun w' => w'.heap[w.heap.size]? = some (.cells #[.int .i64 (g1 : Int), .int .i64 (g2 : Int), .int .i64 (g3 : Int), .int .i64 (g4 : Int), .slice a7 nb c7] 121 (0, 0))) w8.drew := HG8.out
        refine plan_take 11 (v := ?_) rfl (by kernel_rfl) (by kernel_rfl) (by kernel_rfl) (fun _ _ _ h => h) (by rfl) hS0 (fun w' hS' => ?_) ?_
        rotate_left
        · (try dsimp only at hS'); go_simp
          try with_reducible rfl
        simp only [Act.put, List.setIfInBounds_toArray, List.set_cons_zero, List.set_cons_succ]
        refine plan_take 12 (v := ?_) rfl (by kernel_rfl) (by kernel_rfl) (by kernel_rfl) (fun _ _ _ h => h) (by rfl) hS0 (fun w' hS' => ?_) ?_
        rotate_left
        · (try dsimp only at hS'); go_simp
          try with_reducible rfl
        simp only [Act.put, List.setIfInBounds_toArray, List.set_cons_zero, List.set_cons_succ]
        refine plan_take 13 (v := ?_) rfl (by kernel_rfl) (by kernel_rfl) (by kernel_rfl) (fun _ _ _ h => h) (by rfl) hS0 (fun w' hS' => ?_) ?_
        rotate_left
        · (try dsimp only at hS'); go_simp
          try with_reducible rfl
        simp only [Act.put, List.setIfInBounds_toArray, List.set_cons_zero, List.set_cons_succ]
        refine plan_skip 14 rfl (by kernel_rfl) (by kernel_rfl) (by kernel_rfl) (fun _ _ _ h => h) (by rfl) hS0 ?_
        simp only [Act.put, List.setIfInBounds_toArray, List.set_cons_zero, List.set_cons_succ]
        refine plan_skip 15 rfl (by kernel_rfl) (by kernel_rfl) (by kernel_rfl) (fun _ _ _ h => h) (by rfl) hS0 ?_
        simp only [Act.put, List.setIfInBounds_toArray, List.set_cons_zero, List.set_cons_succ]
        refine plan_skip 16 rfl (by kernel_rfl) (by kernel_rfl) (by kernel_rfl) (fun _ _ _ h => h) (by rfl) hS0 ?_
        simp only [Act.put, List.setIfInBounds_toArray, List.set_cons_zero, List.set_cons_succ]
        refine plan_take 17 (v := ?_) rfl (by kernel_rfl) (by kernel_rfl) (by kernel_rfl) (fun _ _ _ h => h) (by rfl) hS0 (fun w' hS' => ?_) ?_
        rotate_left
        · (try dsimp only at hS'); go_simp
          try with_reducible rfl
        simp only [Act.put, List.setIfInBounds_toArray, List.set_cons_zero, List.set_cons_succ]
        refine plan_take 18 (v := ?_) rfl (by kernel_rfl) (by kernel_rfl) (by kernel_rfl) (fun _ _ _ h => h) (by rfl) hS0 (fun w' hS' => ?_) ?_
        rotate_left
        · (try dsimp only at hS'); go_simp
          try with_reducible rfl
        simp only [Act.put, List.setIfInBounds_toArray, List.set_cons_zero, List.set_cons_succ]
        refine plan_skip 19 rfl (by kernel_rfl) (by kernel_rfl) (by kernel_rfl) (fun _ _ _ h => h) (by rfl) hS0 ?_
        simp only [Act.put, List.setIfInBounds_toArray, List.set_cons_zero, List.set_cons_succ]
        refine plan_skip 20 rfl (by kernel_rfl) (by kernel_rfl) (by kernel_rfl) (fun _ _ _ h => h) (by rfl) hS0 ?_
        simp only [Act.put, List.setIfInBounds_toArray, List.set_cons_zero, List.set_cons_succ]
        refine plan_skip 21 rfl (by kernel_rfl) (by kernel_rfl) (by kernel_rfl) (fun _ _ _ h => h) (by rfl) hS0 ?_
        simp only [Act.put, List.setIfInBounds_toArray, List.set_cons_zero, List.set_cons_succ]
        refine plan_skip 22 rfl (by kernel_rfl) (by kernel_rfl) (by kernel_rfl) (fun _ _ _ h => h) (by rfl) hS0 ?_
        simp only [Act.put, List.setIfInBounds_toArray, List.set_cons_zero, List.set_cons_succ]
        refine plan_skip 23 rfl (by kernel_rfl) (by kernel_rfl) (by kernel_rfl) (fun _ _ _ h => h) (by rfl) hS0 ?_
        simp only [Act.put, List.setIfInBounds_toArray, List.set_cons_zero, List.set_cons_succ]
        refine plan_skip 24 rfl (by kernel_rfl) (by kernel_rfl) (by kernel_rfl) (fun _ _ _ h => h) (by rfl) hS0 ?_
        simp only [Act.put, List.setIfInBounds_toArray, List.set_cons_zero, List.set_cons_succ]
        refine plan_skip 25 rfl (by kernel_rfl) (by kernel_rfl) (by kernel_rfl) (fun _ _ _ h => h) (by rfl) hS0 ?_
        simp only [Act.put, List.setIfInBounds_toArray, List.set_cons_zero, List.set_cons_succ]
        refine plan_skip 26 rfl (by kernel_rfl) (by kernel_rfl) (by kernel_rfl) (fun _ _ _ h => h) (by rfl) hS0 ?_
        simp only [Act.put, List.setIfInBounds_toArray, List.set_cons_zero, List.set_cons_succ]
        refine plan_skip 27 rfl (by kernel_rfl) (by kernel_rfl) (by kernel_rfl) (fun _ _ _ h => h) (by rfl) hS0 ?_
        simp only [Act.put, List.setIfInBounds_toArray, List.set_cons_zero, List.set_cons_succ]
        refine plan_take 28 (v := ?_) rfl (by kernel_rfl) (by kernel_rfl) (by kernel_rfl) (fun _ _ _ h => h) (by rfl) hS0 (fun w' hS' => ?_) ?_
        rotate_left
        · (try dsimp only at hS'); go_simp
          try with_reducible rfl
        simp only [Act.put, List.setIfInBounds_toArray, List.set_cons_zero, List.set_cons_succ]
        clear hS0 q0 q1 q2 q3 q4
        refine plan_step 29 rfl (by kernel_rfl) (fun K hK => ?_)
        go_wp2_with (refine wpList_storeRow rfl 121 (.tmp 2) (.tmp 25) rfl w.heap.size _ _ 121 HG8.out rfl rfl rfl HI.out HC1.out ?_)
        intro w9 hg9 hf9
        have hf9 : Fr (fun k => k = w.heap.size) w8 w9 := ((Fr.refl (fun k => k = w.heap.size) w8).drew).trans hf9 (fun _ _ e => e)
        go_wp2_with fail
        refine hK _ _ _ (fun _ h => h) hg9 ?_
        clear hK K
        refine plan_take 30 (v := ?_) rfl (by kernel_rfl) (by kernel_rfl) (by kernel_rfl) (fun _ _ _ h => h) (by rfl) hg9 (fun w' hS' => ?_) ?_
        rotate_left
        · (try dsimp only at hS'); go_simp
          try with_reducible rfl
        simp only [Act.put, List.setIfInBounds_toArray, List.set_cons_zero, List.set_cons_succ]
        refine plan_done (by kernel_rfl) ?_ _
        have F9 := hid (F0.there F8.out hf9 (fun i e => by omega))
        have R9 := hid (O8.out.1.keepR hf9 B8.out)
        have O9 := hid (O8.out.keep hf9 (fun q cs fz hq hc => by subst hq; rw [HG8.out] at hc; injection hc with hc; injection hc with _ hc; exact absurd hc (by decide)))
        have q := HQ.out _ hg9
        clear hg9 hf9
        go_wp2_with fail
        exact bodyPost_ret (v := .tuple #[.agg #[.int .i64 (g1 : Int), .int .i64 (g2 : Int), .int .i64 (g3 : Int), .int .i64 (g4 : Int), .slice a7 nb c7], .bool false]) (by simp [results, Try.results72, go_sem, q.1, q.2.1, q.2.2.1, q.2.2.2.1, q.2.2.2.2]) rfl (by rw [HF.out]; exact ⟨_, _, _, _, _, _, rfl, R9.out, F9.out⟩)
      | zero =>
        obtain rfl : l5 = [] := List.eq_nil_of_length_eq_zero HNL.out
        cases g1 with
        | zero =>
          have HF : Hid (rdF l = none) := hid (by rw [HT.out, if_neg (fun h => by have := h.2.2.2.1; omega)])
          refine plan_start (fun w' => w'.heap[w.heap.size]? = some (.cells #[.int .i64 ((0 : Nat) : Int), .int .i64 (g2 : Int), .int .i64 (g3 : Int), .int .i64 (g4 : Int), .slice a7 nb c7] 121 (0, 0))) (by kernel_rfl) ?_
          have hS0 := HG8.out
          have q0 := fun w' h => (HQ.out w' h).1
          have q1 := fun w' h => (HQ.out w' h).2.1
          have q2 := fun w' h => (HQ.out w' h).2.2.1
          have q3 := fun w' h => (HQ.out w' h).2.2.2.1
          have q4 := fun w' h => (HQ.out w' h).2.2.2.2
          have hS0 : (fun w' => w'.heap[w.heap.size]? = some (.cells #[.int .i64 ((0 : Nat) : Int), .int .i64 (g2 : Int), .int .i64 (g3 : Int), .int .i64 (g4 : Int), .slice a7 nb c7] 121 (0, 0))) w8.drew := HG8.out
          refine plan_take 0 (v := ?_) rfl (by kernel_rfl) (by kernel_rfl) (by kernel_rfl) (fun _ _ _ h => h) (by rfl) hS0 (fun w' hS' => ?_) ?_
          rotate_left
          · (try dsimp only at hS'); go_simp
            try with_reducible rfl
          simp only [Act.put, List.setIfInBounds_toArray, List.set_cons_zero, List.set_cons_succ]
          refine plan_take 1 (v := ?_) rfl (by kernel_rfl) (by kernel_rfl) (by kernel_rfl) (fun _ _ _ h => h) (by rfl) hS0 (fun w' hS' => ?_) ?_
          rotate_left
          · (try dsimp only at hS'); go_simp
            try with_reducible rfl
          simp only [Act.put, List.setIfInBounds_toArray, List.set_cons_zero, List.set_cons_succ]
          refine plan_take 2 (v := ?_) rfl (by kernel_rfl) (by kernel_rfl) (by kernel_rfl) (fun _ _ _ h => h) (by rfl) hS0 (fun w' hS' => ?_) ?_
          rotate_left
          · (try dsimp only at hS'); go_simp
            try with_reducible rfl
          simp only [Act.put, List.setIfInBounds_toArray, List.set_cons_zero, List.set_cons_succ]
          refine plan_take 3 (v := ?_) rfl (by kernel_rfl) (by kernel_rfl) (by kernel_rfl) (fun _ _ _ h => h) (by rfl) hS0 (fun w' hS' => ?_) ?_
          rotate_left
          · (try dsimp only at hS'); go_simp
            try with_reducible rfl
          simp only [Act.put, List.setIfInBounds_toArray, List.set_cons_zero, List.set_cons_succ]
          refine plan_take 4 (v := ?_) rfl (by kernel_rfl) (by kernel_rfl) (by kernel_rfl) (fun _ _ _ h => h) (by rfl) hS0 (fun w' hS' => ?_) ?_
          rotate_left
          · (try dsimp only at hS'); go_simp
            try with_reducible rfl
          simp only [Act.put, List.setIfInBounds_toArray, List.set_cons_zero, List.set_cons_succ]
          clear hS0 q0 q1 q2 q3 q4
          refine plan_step 5 rfl (by kernel_rfl) (fun K hK => ?_)
          go_wp2_with fail
          refine (rerr_l rb _ _ _ (L8.out.keep (Fr.refl F0 w8).drew (fun e => e))).mono ?_
          rintro e w9 ⟨rfl, rfl⟩
          go_wp2_with fail
          refine hK _ _ _ (fun _ h => h) HG8.out ?_
          clear hK K
          have q0 := fun w' h => (HQ.out w' h).1
          have q1 := fun w' h => (HQ.out w' h).2.1
          have q2 := fun w' h => (HQ.out w' h).2.2.1
          have q3 := fun w' h => (HQ.out w' h).2.2.2.1
          have q4 := fun w' h => (HQ.out w' h).2.2.2.2
          have hS0 : (fun w' => w'.heap[w.heap.size]? = some (.cells #[.int .i64 ((0 : Nat) : Int), .int .i64 (g2 : Int), .int .i64 (g3 : Int), .int .i64 (g4 : Int), .slice a7 nb c7] 121 (0, 0))) w8.drew := HG8.out
          refine plan_take 6 (v := ?_) rfl (by kernel_rfl) (by kernel_rfl) (by kernel_rfl) (fun _ _ _ h => h) (by rfl) hS0 (fun w' hS' => ?_) ?_
          rotate_left
          · (try dsimp only at hS'); go_simp
            try with_reducible rfl
          simp only [Act.put, List.setIfInBounds_toArray, List.set_cons_zero, List.set_cons_succ]
          refine plan_take 7 (v := ?_) rfl (by kernel_rfl) (by kernel_rfl) (by kernel_rfl) (fun _ _ _ h => h) (by rfl) hS0 (fun w' hS' => ?_) ?_
          rotate_left
          · (try dsimp only at hS'); go_simp
            try with_reducible rfl
          simp only [Act.put, List.setIfInBounds_toArray, List.set_cons_zero, List.set_cons_succ]
          refine plan_take 8 (v := ?_) rfl (by kernel_rfl) (by kernel_rfl) (by kernel_rfl) (fun _ _ _ h => h) (by rfl) hS0 (fun w' hS' => ?_) ?_
          rotate_left
          · (try dsimp only at hS'); go_simp
            try with_reducible rfl
          simp only [Act.put, List.setIfInBounds_toArray, List.set_cons_zero, List.set_cons_succ]
          refine plan_take 9 (v := ?_) rfl (by kernel_rfl) (by kernel_rfl) (by kernel_rfl) (fun _ _ _ h => h) (by rfl) hS0 (fun w' hS' => ?_) ?_
          rotate_left
          · (try dsimp only at hS'); go_simp
            try with_reducible rfl
          simp only [Act.put, List.setIfInBounds_toArray, List.set_cons_zero, List.set_cons_succ]
          clear hS0 q0 q1 q2 q3 q4
          refine plan_step 10 rfl (by kernel_rfl) (fun K hK => ?_)
          go_wp2_with fail
          refine (rleft_l rb _ _ (L8.out.keep (Fr.refl F0 w8).drew (fun e => e))).mono ?_
          rintro e w9 ⟨rfl, rfl⟩
          go_wp2_with fail
          refine hK _ _ _ (fun _ h => h) HG8.out ?_
          clear hK K
          have q0 := fun w' h => (HQ.out w' h).1
          have q1 := fun w' h => (HQ.out w' h).2.1
          have q2 := fun w' h => (HQ.out w' h).2.2.1
          have q3 := fun w' h => (HQ.out w' h).2.2.2.1
          have q4 := fun w' h => (HQ.out w' h).2.2.2.2
          have hS0 : (fun w' => w'.heap[w.heap.size]? = some (.cells #[.int .i64 ((0 : Nat) : Int), .int .i64 (g2 : Int), .int .i64 (g3 : Int), .int .i64 (g4 : Int), .slice a7 nb c7] 121 (0, 0))) w8.drew := HG8.out
          refine plan_take 11 (v := ?_) rfl (by kernel_rfl) (by kernel_rfl) (by kernel_rfl) (fun _ _ _ h => h) (by rfl) hS0 (fun w' hS' => ?_) ?_
          rotate_left
          · (try dsimp only at hS'); go_simp
            try with_reducible rfl
          simp only [Act.put, List.setIfInBounds_toArray, List.set_cons_zero, List.set_cons_succ]
          refine plan_take 12 (v := ?_) rfl (by kernel_rfl) (by kernel_rfl) (by kernel_rfl) (fun _ _ _ h => h) (by rfl) hS0 (fun w' hS' => ?_) ?_
          rotate_left
          · (try dsimp only at hS'); go_simp
            try with_reducible rfl
          simp only [Act.put, List.setIfInBounds_toArray, List.set_cons_zero, List.set_cons_succ]
          refine plan_take 13 (v := ?_) rfl (by kernel_rfl) (by kernel_rfl) (by kernel_rfl) (fun _ _ _ h => h) (by rfl) hS0 (fun w' hS' => ?_) ?_
          rotate_left
          · (try dsimp only at hS'); go_simp
            try with_reducible rfl
          simp only [Act.put, List.setIfInBounds_toArray, List.set_cons_zero, List.set_cons_succ]
          refine plan_take 14 (v := ?_) rfl (by kernel_rfl) (by kernel_rfl) (by kernel_rfl) (fun _ _ _ h => h) (by rfl) hS0 (fun w' hS' => ?_) ?_
          rotate_left
          · (try dsimp only at hS'); go_simp
            try with_reducible rfl
          simp only [Act.put, List.setIfInBounds_toArray, List.set_cons_zero, List.set_cons_succ]
          refine plan_take 15 (v := ?_) rfl (by kernel_rfl) (by kernel_rfl) (by kernel_rfl) (fun _ _ _ h => h) (by rfl) hS0 (fun w' hS' => ?_) ?_
          rotate_left
          · (try dsimp only at hS'); go_simp
            try with_reducible rfl
          simp only [Act.put, List.setIfInBounds_toArray, List.set_cons_zero, List.set_cons_succ]
          refine plan_take 16 (v := ?_) rfl (by kernel_rfl) (by kernel_rfl) (by kernel_rfl) (fun _ _ _ h => h) (by rfl) hS0 (fun w' hS' => ?_) ?_
          rotate_left
          · (try dsimp only at hS'); go_simp
            try with_reducible rfl
          simp only [Act.put, List.setIfInBounds_toArray, List.set_cons_zero, List.set_cons_succ]
          refine plan_take 17 (v := ?_) rfl (by kernel_rfl) (by kernel_rfl) (by kernel_rfl) (fun _ _ _ h => h) (by rfl) hS0 (fun w' hS' => ?_) ?_
          rotate_left
          · (try dsimp only at hS'); go_simp
            try with_reducible rfl
          simp only [Act.put, List.setIfInBounds_toArray, List.set_cons_zero, List.set_cons_succ]
          refine plan_take 18 (v := ?_) rfl (by kernel_rfl) (by kernel_rfl) (by kernel_rfl) (fun _ _ _ h => h) (by rfl) hS0 (fun w' hS' => ?_) ?_
          rotate_left
          · (try dsimp only at hS'); go_simp
            try with_reducible rfl
          simp only [Act.put, List.setIfInBounds_toArray, List.set_cons_zero, List.set_cons_succ]
          refine plan_skip 19 rfl (by kernel_rfl) (by kernel_rfl) (by kernel_rfl) (fun _ _ _ h => h) (by rfl) hS0 ?_
          simp only [Act.put, List.setIfInBounds_toArray, List.set_cons_zero, List.set_cons_succ]
          refine plan_skip 20 rfl (by kernel_rfl) (by kernel_rfl) (by kernel_rfl) (fun _ _ _ h => h) (by rfl) hS0 ?_
          simp only [Act.put, List.setIfInBounds_toArray, List.set_cons_zero, List.set_cons_succ]
          refine plan_skip 21 rfl (by kernel_rfl) (by kernel_rfl) (by kernel_rfl) (fun _ _ _ h => h) (by rfl) hS0 ?_
          simp only [Act.put, List.setIfInBounds_toArray, List.set_cons_zero, List.set_cons_succ]
          refine plan_skip 22 rfl (by kernel_rfl) (by kernel_rfl) (by kernel_rfl) (fun _ _ _ h => h) (by rfl) hS0 ?_
          simp only [Act.put, List.setIfInBounds_toArray, List.set_cons_zero, List.set_cons_succ]
          refine plan_skip 23 rfl (by kernel_rfl) (by kernel_rfl) (by kernel_rfl) (fun _ _ _ h => h) (by rfl) hS0 ?_
          simp only [Act.put, List.setIfInBounds_toArray, List.set_cons_zero, List.set_cons_succ]
          refine plan_skip 24 rfl (by kernel_rfl) (by kernel_rfl) (by kernel_rfl) (fun _ _ _ h => h) (by rfl) hS0 ?_
          simp only [Act.put, List.setIfInBounds_toArray, List.set_cons_zero, List.set_cons_succ]
          refine plan_skip 25 rfl (by kernel_rfl) (by kernel_rfl) (by kernel_rfl) (fun _ _ _ h => h) (by rfl) hS0 ?_
          simp only [Act.put, List.setIfInBounds_toArray, List.set_cons_zero, List.set_cons_succ]
          refine plan_skip 26 rfl (by kernel_rfl) (by kernel_rfl) (by kernel_rfl) (fun _ _ _ h => h) (by rfl) hS0 ?_
          simp only [Act.put, List.setIfInBounds_toArray, List.set_cons_zero, List.set_cons_succ]
          refine plan_skip 27 rfl (by kernel_rfl) (by kernel_rfl) (by kernel_rfl) (fun _ _ _ h => h) (by rfl) hS0 ?_
          simp only [Act.put, List.setIfInBounds_toArray, List.set_cons_zero, List.set_cons_succ]
          refine plan_take 28 (v := ?_) rfl (by kernel_rfl) (by kernel_rfl) (by kernel_rfl) (fun _ _ _ h => h) (by rfl) hS0 (fun w' hS' => ?_) ?_
          rotate_left
          · (try dsimp only at hS'); go_simp
            try with_reducible rfl
          simp only [Act.put, List.setIfInBounds_toArray, List.set_cons_zero, List.set_cons_succ]
          clear hS0 q0 q1 q2 q3 q4
          refine plan_step 29 rfl (by kernel_rfl) (fun K hK => ?_)
          go_wp2_with (refine wpList_storeRow rfl 121 (.tmp 2) (.tmp 25) rfl w.heap.size _ _ 121 HG8.out rfl rfl rfl HI.out HC1.out ?_)
          intro w9 hg9 hf9
          have hf9 : Fr (fun k => k = w.heap.size) w8 w9 := ((Fr.refl (fun k => k = w.heap.size) w8).drew).trans hf9 (fun _ _ e => e)
          go_wp2_with fail
          refine hK _ _ _ (fun _ h => h) hg9 ?_
          clear hK K
          refine plan_take 30 (v := ?_) rfl (by kernel_rfl) (by kernel_rfl) (by kernel_rfl) (fun _ _ _ h => h) (by rfl) hg9 (fun w' hS' => ?_) ?_
          rotate_left
          · (try dsimp only at hS'); go_simp
            try with_reducible rfl
          simp only [Act.put, List.setIfInBounds_toArray, List.set_cons_zero, List.set_cons_succ]
          refine plan_done (by kernel_rfl) ?_ _
          have F9 := hid (F0.there F8.out hf9 (fun i e => by omega))
          have R9 := hid (O8.out.1.keepR hf9 B8.out)
          have O9 := hid (O8.out.keep hf9 (fun q cs fz hq hc => by subst hq; rw [HG8.out] at hc; injection hc with hc; injection hc with _ hc; exact absurd hc (by decide)))
          have q := HQ.out _ hg9
          clear hg9 hf9
          go_wp2_with fail
          exact bodyPost_ret (v := .tuple #[.agg #[.int .i64 ((0 : Nat) : Int), .int .i64 (g2 : Int), .int .i64 (g3 : Int), .int .i64 (g4 : Int), .slice a7 nb c7], .bool false]) (by simp [results, Try.results72, go_sem, q.1, q.2.1, q.2.2.1, q.2.2.2.1, q.2.2.2.2]) rfl (by rw [HF.out]; exact ⟨_, _, _, _, _, _, rfl, R9.out, F9.out⟩)
        | succ m1 =>
          have k3 : decide (0 < (m1 : Int) + 1) = true := by simp only [decide_eq_true_eq]; omega
          have k3' : (0 : Int) < (m1 : Int) + 1 := by omega
          cases g3 with
          | succ m3 =>
            have k4 : decide (0 < (m3 : Int) + 1) = true := by simp only [decide_eq_true_eq]; omega
            have k4' : (0 : Int) < (m3 : Int) + 1 := by omega
            have HF : Hid (rdF l = some ⟨m1 + 1, g2, m3 + 1, g4, bd⟩) := hid (by rw [HT.out, if_pos ⟨rfl, rfl, rfl, by omega, .inl (by omega)⟩])
            refine plan_start (fun w' => w'.heap[w.heap.size]? = some (.cells #[.int .i64 ((m1 + 1 : Nat) : Int), .int .i64 (g2 : Int), .int .i64 ((m3 + 1 : Nat) : Int), .int .i64 (g4 : Int), .slice a7 nb c7] 121 (0, 0))) (by kernel_rfl) ?_
            have hS0 := HG8.out
            have q0 := fun w' h => (HQ.out w' h).1
            have q1 := fun w' h => (HQ.out w' h).2.1
            have q2 := fun w' h => (HQ.out w' h).2.2.1
            have q3 := fun w' h => (HQ.out w' h).2.2.2.1
            have q4 := fun w' h => (HQ.out w' h).2.2.2.2
            have hS0 : (fun w' => w'.heap[w.heap.size]? = some (.cells #[.int .i64 ((m1 + 1 : Nat) : Int), .int .i64 (g2 : Int), .int .i64 ((m3 + 1 : Nat) : Int), .int .i64 (g4 : Int), .slice a7 nb c7] 121 (0, 0))) w8.drew := HG8.out
            refine plan_take 0 (v := ?_) rfl (by kernel_rfl) (by kernel_rfl) (by kernel_rfl) (fun _ _ _ h => h) (by rfl) hS0 (fun w' hS' => ?_) ?_
            rotate_left
            · (try dsimp only at hS'); go_simp
              try with_reducible rfl
            simp only [Act.put, List.setIfInBounds_toArray, List.set_cons_zero, List.set_cons_succ]
            refine plan_take 1 (v := ?_) rfl (by kernel_rfl) (by kernel_rfl) (by kernel_rfl) (fun _ _ _ h => h) (by rfl) hS0 (fun w' hS' => ?_) ?_
            rotate_left
            · (try dsimp only at hS'); go_simp
              try with_reducible rfl
            simp only [Act.put, List.setIfInBounds_toArray, List.set_cons_zero, List.set_cons_succ]
            refine plan_take 2 (v := ?_) rfl (by kernel_rfl) (by kernel_rfl) (by kernel_rfl) (fun _ _ _ h => h) (by rfl) hS0 (fun w' hS' => ?_) ?_
            rotate_left
            · (try dsimp only at hS'); go_simp
              try with_reducible rfl
            simp only [Act.put, List.setIfInBounds_toArray, List.set_cons_zero, List.set_cons_succ]
            refine plan_take 3 (v := ?_) rfl (by kernel_rfl) (by kernel_rfl) (by kernel_rfl) (fun _ _ _ h => h) (by rfl) hS0 (fun w' hS' => ?_) ?_
            rotate_left
            · (try dsimp only at hS'); go_simp
              try with_reducible rfl
            simp only [Act.put, List.setIfInBounds_toArray, List.set_cons_zero, List.set_cons_succ]
            refine plan_take 4 (v := ?_) rfl (by kernel_rfl) (by kernel_rfl) (by kernel_rfl) (fun _ _ _ h => h) (by rfl) hS0 (fun w' hS' => ?_) ?_
            rotate_left
            · (try dsimp only at hS'); go_simp
              try with_reducible rfl
            simp only [Act.put, List.setIfInBounds_toArray, List.set_cons_zero, List.set_cons_succ]
            clear hS0 q0 q1 q2 q3 q4
            refine plan_step 5 rfl (by kernel_rfl) (fun K hK => ?_)
            go_wp2_with fail
            refine (rerr_l rb _ _ _ (L8.out.keep (Fr.refl F0 w8).drew (fun e => e))).mono ?_
            rintro e w9 ⟨rfl, rfl⟩
            go_wp2_with fail
            refine hK _ _ _ (fun _ h => h) HG8.out ?_
            clear hK K
            have q0 := fun w' h => (HQ.out w' h).1
            have q1 := fun w' h => (HQ.out w' h).2.1
            have q2 := fun w' h => (HQ.out w' h).2.2.1
            have q3 := fun w' h => (HQ.out w' h).2.2.2.1
            have q4 := fun w' h => (HQ.out w' h).2.2.2.2
            have hS0 : (fun w' => w'.heap[w.heap.size]? = some (.cells #[.int .i64 ((m1 + 1 : Nat) : Int), .int .i64 (g2 : Int), .int .i64 ((m3 + 1 : Nat) : Int), .int .i64 (g4 : Int), .slice a7 nb c7] 121 (0, 0))) w8.drew := HG8.out
            refine plan_take 6 (v := ?_) rfl (by kernel_rfl) (by kernel_rfl) (by kernel_rfl) (fun _ _ _ h => h) (by rfl) hS0 (fun w' hS' => ?_) ?_
            rotate_left
            · (try dsimp only at hS'); go_simp
              try with_reducible rfl
            simp only [Act.put, List.setIfInBounds_toArray, List.set_cons_zero, List.set_cons_succ]
            refine plan_take 7 (v := ?_) rfl (by kernel_rfl) (by kernel_rfl) (by kernel_rfl) (fun _ _ _ h => h) (by rfl) hS0 (fun w' hS' => ?_) ?_
            rotate_left
            · (try dsimp only at hS'); go_simp
              try with_reducible rfl
            simp only [Act.put, List.setIfInBounds_toArray, List.set_cons_zero, List.set_cons_succ]
            refine plan_take 8 (v := ?_) rfl (by kernel_rfl) (by kernel_rfl) (by kernel_rfl) (fun _ _ _ h => h) (by rfl) hS0 (fun w' hS' => ?_) ?_
            rotate_left
            · (try dsimp only at hS'); go_simp
              try with_reducible rfl
            simp only [Act.put, List.setIfInBounds_toArray, List.set_cons_zero, List.set_cons_succ]
            refine plan_take 9 (v := ?_) rfl (by kernel_rfl) (by kernel_rfl) (by kernel_rfl) (fun _ _ _ h => h) (by rfl) hS0 (fun w' hS' => ?_) ?_
            rotate_left
            · (try dsimp only at hS'); go_simp
              try with_reducible rfl
            simp only [Act.put, List.setIfInBounds_toArray, List.set_cons_zero, List.set_cons_succ]
            clear hS0 q0 q1 q2 q3 q4
            refine plan_step 10 rfl (by kernel_rfl) (fun K hK => ?_)
            go_wp2_with fail
            refine (rleft_l rb _ _ (L8.out.keep (Fr.refl F0 w8).drew (fun e => e))).mono ?_
            rintro e w9 ⟨rfl, rfl⟩
            go_wp2_with fail
            refine hK _ _ _ (fun _ h => h) HG8.out ?_
            clear hK K
            have q0 := fun w' h => (HQ.out w' h).1
            have q1 := fun w' h => (HQ.out w' h).2.1
            have q2 := fun w' h => (HQ.out w' h).2.2.1
            have q3 := fun w' h => (HQ.out w' h).2.2.2.1
            have q4 := fun w' h => (HQ.out w' h).2.2.2.2
            have hS0 : (fun w' => w'.heap[w.heap.size]? = some (.cells #[.int .i64 ((m1 + 1 : Nat) : Int), .int .i64 (g2 : Int), .int .i64 ((m3 + 1 : Nat) : Int), .int .i64 (g4 : Int), .slice a7 nb c7] 121 (0, 0))) w8.drew := HG8.out
            refine plan_take 11 (v := ?_) rfl (by kernel_rfl) (by kernel_rfl) (by kernel_rfl) (fun _ _ _ h => h) (by rfl) hS0 (fun w' hS' => ?_) ?_
            rotate_left
            · (try dsimp only at hS'); go_simp
              try with_reducible rfl
            simp only [Act.put, List.setIfInBounds_toArray, List.set_cons_zero, List.set_cons_succ]
            refine plan_take 12 (v := ?_) rfl (by kernel_rfl) (by kernel_rfl) (by kernel_rfl) (fun _ _ _ h => h) (by rfl) hS0 (fun w' hS' => ?_) ?_
            rotate_left
            · (try dsimp only at hS'); go_simp
              try with_reducible rfl
            simp only [Act.put, List.setIfInBounds_toArray, List.set_cons_zero, List.set_cons_succ]
            refine plan_take 13 (v := ?_) rfl (by kernel_rfl) (by kernel_rfl) (by kernel_rfl) (fun _ _ _ h => h) (by rfl) hS0 (fun w' hS' => ?_) ?_
            rotate_left
            · (try dsimp only at hS'); go_simp
              try with_reducible rfl
            simp only [Act.put, List.setIfInBounds_toArray, List.set_cons_zero, List.set_cons_succ]
            refine plan_take 14 (v := ?_) rfl (by kernel_rfl) (by kernel_rfl) (by kernel_rfl) (fun _ _ _ h => h) (by rfl) hS0 (fun w' hS' => ?_) ?_
            rotate_left
            · (try dsimp only at hS'); go_simp
              try with_reducible rfl
            simp only [Act.put, List.setIfInBounds_toArray, List.set_cons_zero, List.set_cons_succ]
            refine plan_take 15 (v := ?_) rfl (by kernel_rfl) (by kernel_rfl) (by kernel_rfl) (fun _ _ _ h => h) (by rfl) hS0 (fun w' hS' => ?_) ?_
            rotate_left
            · (try dsimp only at hS'); go_simp
              try with_reducible rfl
            simp only [Act.put, List.setIfInBounds_toArray, List.set_cons_zero, List.set_cons_succ]
            refine plan_take 16 (v := ?_) rfl (by kernel_rfl) (by kernel_rfl) (by kernel_rfl) (fun _ _ _ h => h) (by rfl) hS0 (fun w' hS' => ?_) ?_
            rotate_left
            · (try dsimp only at hS'); go_simp
              try with_reducible rfl
            simp only [Act.put, List.setIfInBounds_toArray, List.set_cons_zero, List.set_cons_succ]
            refine plan_take 17 (v := ?_) rfl (by kernel_rfl) (by kernel_rfl) (by kernel_rfl) (fun _ _ _ h => h) (by rfl) hS0 (fun w' hS' => ?_) ?_
            rotate_left
            · (try dsimp only at hS'); go_simp
              try with_reducible rfl
            simp only [Act.put, List.setIfInBounds_toArray, List.set_cons_zero, List.set_cons_succ]
            refine plan_take 18 (v := ?_) rfl (by kernel_rfl) (by kernel_rfl) (by kernel_rfl) (fun _ _ _ h => h) (by rfl) hS0 (fun w' hS' => ?_) ?_
            rotate_left
            · (try dsimp only at hS'); go_simp
              try with_reducible rfl
            simp only [Act.put, List.setIfInBounds_toArray, List.set_cons_zero, List.set_cons_succ]
            refine plan_take 19 (v := ?_) rfl (by kernel_rfl) (by kernel_rfl) (by kernel_rfl) (fun _ _ _ h => h) (by rfl) hS0 (fun w' hS' => ?_) ?_
            rotate_left
            · (try dsimp only at hS'); go_simp
              try with_reducible rfl
            simp only [Act.put, List.setIfInBounds_toArray, List.set_cons_zero, List.set_cons_succ]
            refine plan_take 20 (v := ?_) rfl (by kernel_rfl) (by kernel_rfl) (by kernel_rfl) (fun _ _ _ h => h) (by rfl) hS0 (fun w' hS' => ?_) ?_
            rotate_left
            · (try dsimp only at hS'); go_simp
              try with_reducible rfl
            simp only [Act.put, List.setIfInBounds_toArray, List.set_cons_zero, List.set_cons_succ]
            refine plan_take 21 (v := ?_) rfl (by kernel_rfl) (by kernel_rfl) (by kernel_rfl) (fun _ _ _ h => h) (by rfl) hS0 (fun w' hS' => ?_) ?_
            rotate_left
            · (try dsimp only at hS'); go_simp
              try with_reducible rfl
            simp only [Act.put, List.setIfInBounds_toArray, List.set_cons_zero, List.set_cons_succ]
            refine plan_take 22 (v := ?_) rfl (by kernel_rfl) (by kernel_rfl) (by kernel_rfl) (fun _ _ _ h => h) (by rfl) hS0 (fun w' hS' => ?_) ?_
            rotate_left
            · (try dsimp only at hS'); go_simp
              try with_reducible rfl
            simp only [Act.put, List.setIfInBounds_toArray, List.set_cons_zero, List.set_cons_succ]
            refine plan_skip 23 rfl (by kernel_rfl) (by kernel_rfl) (by kernel_rfl) (fun _ _ _ h => h) (by rfl) hS0 ?_
            simp only [Act.put, List.setIfInBounds_toArray, List.set_cons_zero, List.set_cons_succ]
            refine plan_skip 24 rfl (by kernel_rfl) (by kernel_rfl) (by kernel_rfl) (fun _ _ _ h => h) (by rfl) hS0 ?_
            simp only [Act.put, List.setIfInBounds_toArray, List.set_cons_zero, List.set_cons_succ]
            refine plan_skip 25 rfl (by kernel_rfl) (by kernel_rfl) (by kernel_rfl) (fun _ _ _ h => h) (by rfl) hS0 ?_
            simp only [Act.put, List.setIfInBounds_toArray, List.set_cons_zero, List.set_cons_succ]
            refine plan_skip 26 rfl (by kernel_rfl) (by kernel_rfl) (by kernel_rfl) (fun _ _ _ h => h) (by rfl) hS0 ?_
            simp only [Act.put, List.setIfInBounds_toArray, List.set_cons_zero, List.set_cons_succ]
            refine plan_take 27 (v := ?_) rfl (by kernel_rfl) (by kernel_rfl) (by kernel_rfl) (fun _ _ _ h => h) (by rfl) hS0 (fun w' hS' => ?_) ?_
            rotate_left
            · (try dsimp only at hS'); go_simp
              try with_reducible rfl
            simp only [Act.put, List.setIfInBounds_toArray, List.set_cons_zero, List.set_cons_succ]
            refine plan_take 28 (v := ?_) rfl (by kernel_rfl) (by kernel_rfl) (by kernel_rfl) (fun _ _ _ h => h) (by rfl) hS0 (fun w' hS' => ?_) ?_
            rotate_left
            · (try dsimp only at hS'); go_simp
              try with_reducible rfl
            simp only [Act.put, List.setIfInBounds_toArray, List.set_cons_zero, List.set_cons_succ]
            clear hS0 q0 q1 q2 q3 q4
            refine plan_step 29 rfl (by kernel_rfl) (fun K hK => ?_)
            go_wp2_with (refine wpList_storeRow rfl 121 (.tmp 2) (.tmp 25) rfl w.heap.size _ _ 121 HG8.out rfl rfl rfl HI.out HC1.out ?_)
            intro w9 hg9 hf9
            have hf9 : Fr (fun k => k = w.heap.size) w8 w9 := ((Fr.refl (fun k => k = w.heap.size) w8).drew).trans hf9 (fun _ _ e => e)
            go_wp2_with fail
            refine hK _ _ _ (fun _ h => h) hg9 ?_
            clear hK K
            refine plan_take 30 (v := ?_) rfl (by kernel_rfl) (by kernel_rfl) (by kernel_rfl) (fun _ _ _ h => h) (by rfl) hg9 (fun w' hS' => ?_) ?_
            rotate_left
            · (try dsimp only at hS'); go_simp
              try with_reducible rfl
            simp only [Act.put, List.setIfInBounds_toArray, List.set_cons_zero, List.set_cons_succ]
            refine plan_done (by kernel_rfl) ?_ _
            have F9 := hid (F0.there F8.out hf9 (fun i e => by omega))
            have R9 := hid (O8.out.1.keepR hf9 B8.out)
            have O9 := hid (O8.out.keep hf9 (fun q cs fz hq hc => by subst hq; rw [HG8.out] at hc; injection hc with hc; injection hc with _ hc; exact absurd hc (by decide)))
            have q := HQ.out _ hg9
            clear hg9 hf9
            go_wp2_with fail
            exact bodyPost_ret (v := .tuple #[.agg #[.int .i64 ((m1 + 1 : Nat) : Int), .int .i64 (g2 : Int), .int .i64 ((m3 + 1 : Nat) : Int), .int .i64 (g4 : Int), .slice a7 nb c7], .bool true]) (by simp [results, Try.results72, go_sem, q.1, q.2.1, q.2.2.1, q.2.2.2.1, q.2.2.2.2]) rfl (by rw [HF.out]; exact ⟨_, rfl, O9.out, F9.out⟩)
          | zero =>
            cases nb with
            | zero =>
              obtain rfl : bd = [] := List.eq_nil_of_length_eq_zero HNB.out
              have HF : Hid (rdF l = some ⟨m1 + 1, g2, 0, g4, []⟩) := hid (by rw [HT.out, if_pos ⟨rfl, rfl, rfl, by omega, .inr rfl⟩])
              refine plan_start (fun w' => w'.heap[w.heap.size]? = some (.cells #[.int .i64 ((m1 + 1 : Nat) : Int), .int .i64 (g2 : Int), .int .i64 ((0 : Nat) : Int), .int .i64 (g4 : Int), .slice a7 0 c7] 121 (0, 0))) (by kernel_rfl) ?_
              have hS0 := HG8.out
              have q0 := fun w' h => (HQ.out w' h).1
              have q1 := fun w' h => (HQ.out w' h).2.1
              have q2 := fun w' h => (HQ.out w' h).2.2.1
              have q3 := fun w' h => (HQ.out w' h).2.2.2.1
              have q4 := fun w' h => (HQ.out w' h).2.2.2.2
              have hS0 : (fun w' => w'.heap[w.heap.size]? = some (.cells #[.int .i64 ((m1 + 1 : Nat) : Int), .int .i64 (g2 : Int), .int .i64 ((0 : Nat) : Int), .int .i64 (g4 : Int), .slice a7 0 c7] 121 (0, 0))) w8.drew := HG8.out
              refine plan_take 0 (v := ?_) rfl (by kernel_rfl) (by kernel_rfl) (by kernel_rfl) (fun _ _ _ h => h) (by rfl) hS0 (fun w' hS' => ?_) ?_
              rotate_left
              · (try dsimp only at hS'); go_simp
                try with_reducible rfl
              simp only [Act.put, List.setIfInBounds_toArray, List.set_cons_zero, List.set_cons_succ]
              refine plan_take 1 (v := ?_) rfl (by kernel_rfl) (by kernel_rfl) (by kernel_rfl) (fun _ _ _ h => h) (by rfl) hS0 (fun w' hS' => ?_) ?_
              rotate_left
              · (try dsimp only at hS'); go_simp
                try with_reducible rfl
              simp only [Act.put, List.setIfInBounds_toArray, List.set_cons_zero, List.set_cons_succ]
              refine plan_take 2 (v := ?_) rfl (by kernel_rfl) (by kernel_rfl) (by kernel_rfl) (fun _ _ _ h => h) (by rfl) hS0 (fun w' hS' => ?_) ?_
              rotate_left
              · (try dsimp only at hS'); go_simp
                try with_reducible rfl
              simp only [Act.put, List.setIfInBounds_toArray, List.set_cons_zero, List.set_cons_succ]
              refine plan_take 3 (v := ?_) rfl (by kernel_rfl) (by kernel_rfl) (by kernel_rfl) (fun _ _ _ h => h) (by rfl) hS0 (fun w' hS' => ?_) ?_
              rotate_left
              · (try dsimp only at hS'); go_simp
                try with_reducible rfl
              simp only [Act.put, List.setIfInBounds_toArray, List.set_cons_zero, List.set_cons_succ]
              refine plan_take 4 (v := ?_) rfl (by kernel_rfl) (by kernel_rfl) (by kernel_rfl) (fun _ _ _ h => h) (by rfl) hS0 (fun w' hS' => ?_) ?_
              rotate_left
              · (try dsimp only at hS'); go_simp
                try with_reducible rfl
              simp only [Act.put, List.setIfInBounds_toArray, List.set_cons_zero, List.set_cons_succ]
              clear hS0 q0 q1 q2 q3 q4
              refine plan_step 5 rfl (by kernel_rfl) (fun K hK => ?_)
              go_wp2_with fail
              refine (rerr_l rb _ _ _ (L8.out.keep (Fr.refl F0 w8).drew (fun e => e))).mono ?_
              rintro e w9 ⟨rfl, rfl⟩
              go_wp2_with fail
              refine hK _ _ _ (fun _ h => h) HG8.out ?_
              clear hK K
              have q0 := fun w' h => (HQ.out w' h).1
              have q1 := fun w' h => (HQ.out w' h).2.1
              have q2 := fun w' h => (HQ.out w' h).2.2.1
              have q3 := fun w' h => (HQ.out w' h).2.2.2.1
              have q4 := fun w' h => (HQ.out w' h).2.2.2.2
              have hS0 : (fun w' => w'.heap[w.heap.size]? = some (.cells #[.int .i64 ((m1 + 1 : Nat) : Int), .int .i64 (g2 : Int), .int .i64 ((0 : Nat) : Int), .int .i64 (g4 : Int), .slice a7 0 c7] 121 (0, 0))) w8.drew := HG8.out
              refine plan_take 6 (v := ?_) rfl (by kernel_rfl) (by kernel_rfl) (by kernel_rfl) (fun _ _ _ h => h) (by rfl) hS0 (fun w' hS' => ?_) ?_
              rotate_left
              · (try dsimp only at hS'); go_simp
                try with_reducible rfl
              simp only [Act.put, List.setIfInBounds_toArray, List.set_cons_zero, List.set_cons_succ]
              refine plan_take 7 (v := ?_) rfl (by kernel_rfl) (by kernel_rfl) (by kernel_rfl) (fun _ _ _ h => h) (by rfl) hS0 (fun w' hS' => ?_) ?_
              rotate_left
              · (try dsimp only at hS'); go_simp
                try with_reducible rfl
              simp only [Act.put, List.setIfInBounds_toArray, List.set_cons_zero, List.set_cons_succ]
              refine plan_take 8 (v := ?_) rfl (by kernel_rfl) (by kernel_rfl) (by kernel_rfl) (fun _ _ _ h => h) (by rfl) hS0 (fun w' hS' => ?_) ?_
              rotate_left
              · (try dsimp only at hS'); go_simp
                try with_reducible rfl
              simp only [Act.put, List.setIfInBounds_toArray, List.set_cons_zero, List.set_cons_succ]
              refine plan_take 9 (v := ?_) rfl (by kernel_rfl) (by kernel_rfl) (by kernel_rfl) (fun _ _ _ h => h) (by rfl) hS0 (fun w' hS' => ?_) ?_
              rotate_left
              · (try dsimp only at hS'); go_simp
                try with_reducible rfl
              simp only [Act.put, List.setIfInBounds_toArray, List.set_cons_zero, List.set_cons_succ]
              clear hS0 q0 q1 q2 q3 q4
              refine plan_step 10 rfl (by kernel_rfl) (fun K hK => ?_)
              go_wp2_with fail
              refine (rleft_l rb _ _ (L8.out.keep (Fr.refl F0 w8).drew (fun e => e))).mono ?_
              rintro e w9 ⟨rfl, rfl⟩
              go_wp2_with fail
              refine hK _ _ _ (fun _ h => h) HG8.out ?_
              clear hK K
              have q0 := fun w' h => (HQ.out w' h).1
              have q1 := fun w' h => (HQ.out w' h).2.1
              have q2 := fun w' h => (HQ.out w' h).2.2.1
              have q3 := fun w' h => (HQ.out w' h).2.2.2.1
              have q4 := fun w' h => (HQ.out w' h).2.2.2.2
              have hS0 : (fun w' => w'.heap[w.heap.size]? = some (.cells #[.int .i64 ((m1 + 1 : Nat) : Int), .int .i64 (g2 : Int), .int .i64 ((0 : Nat) : Int), .int .i64 (g4 : Int), .slice a7 0 c7] 121 (0, 0))) w8.drew := HG8.out
              refine plan_take 11 (v := ?_) rfl (by kernel_rfl) (by kernel_rfl) (by kernel_rfl) (fun _ _ _ h => h) (by rfl) hS0 (fun w' hS' => ?_) ?_
              rotate_left
              · (try dsimp only at hS'); go_simp
                try with_reducible rfl
              simp only [Act.put, List.setIfInBounds_toArray, List.set_cons_zero, List.set_cons_succ]
              refine plan_take 12 (v := ?_) rfl (by kernel_rfl) (by kernel_rfl) (by kernel_rfl) (fun _ _ _ h => h) (by rfl) hS0 (fun w' hS' => ?_) ?_
              rotate_left
              · (try dsimp only at hS'); go_simp
                try with_reducible rfl
              simp only [Act.put, List.setIfInBounds_toArray, List.set_cons_zero, List.set_cons_succ]
              refine plan_take 13 (v := ?_) rfl (by kernel_rfl) (by kernel_rfl) (by kernel_rfl) (fun _ _ _ h => h) (by rfl) hS0 (fun w' hS' => ?_) ?_
              rotate_left
              · (try dsimp only at hS'); go_simp
                try with_reducible rfl
              simp only [Act.put, List.setIfInBounds_toArray, List.set_cons_zero, List.set_cons_succ]
              refine plan_take 14 (v := ?_) rfl (by kernel_rfl) (by kernel_rfl) (by kernel_rfl) (fun _ _ _ h => h) (by rfl) hS0 (fun w' hS' => ?_) ?_
              rotate_left
              · (try dsimp only at hS'); go_simp
                try with_reducible rfl
              simp only [Act.put, List.setIfInBounds_toArray, List.set_cons_zero, List.set_cons_succ]
              refine plan_take 15 (v := ?_) rfl (by kernel_rfl) (by kernel_rfl) (by kernel_rfl) (fun _ _ _ h => h) (by rfl) hS0 (fun w' hS' => ?_) ?_
              rotate_left
              · (try dsimp only at hS'); go_simp
                try with_reducible rfl
              simp only [Act.put, List.setIfInBounds_toArray, List.set_cons_zero, List.set_cons_succ]
              refine plan_take 16 (v := ?_) rfl (by kernel_rfl) (by kernel_rfl) (by kernel_rfl) (fun _ _ _ h => h) (by rfl) hS0 (fun w' hS' => ?_) ?_
              rotate_left
              · (try dsimp only at hS'); go_simp
                try with_reducible rfl
              simp only [Act.put, List.setIfInBounds_toArray, List.set_cons_zero, List.set_cons_succ]
              refine plan_take 17 (v := ?_) rfl (by kernel_rfl) (by kernel_rfl) (by kernel_rfl) (fun _ _ _ h => h) (by rfl) hS0 (fun w' hS' => ?_) ?_
              rotate_left
              · (try dsimp only at hS'); go_simp
                try with_reducible rfl
              simp only [Act.put, List.setIfInBounds_toArray, List.set_cons_zero, List.set_cons_succ]
              refine plan_take 18 (v := ?_) rfl (by kernel_rfl) (by kernel_rfl) (by kernel_rfl) (fun _ _ _ h => h) (by rfl) hS0 (fun w' hS' => ?_) ?_
              rotate_left
              · (try dsimp only at hS'); go_simp
                try with_reducible rfl
              simp only [Act.put, List.setIfInBounds_toArray, List.set_cons_zero, List.set_cons_succ]
              refine plan_take 19 (v := ?_) rfl (by kernel_rfl) (by kernel_rfl) (by kernel_rfl) (fun _ _ _ h => h) (by rfl) hS0 (fun w' hS' => ?_) ?_
              rotate_left
              · (try dsimp only at hS'); go_simp
                try with_reducible rfl
              simp only [Act.put, List.setIfInBounds_toArray, List.set_cons_zero, List.set_cons_succ]
              refine plan_take 20 (v := ?_) rfl (by kernel_rfl) (by kernel_rfl) (by kernel_rfl) (fun _ _ _ h => h) (by rfl) hS0 (fun w' hS' => ?_) ?_
              rotate_left
              · (try dsimp only at hS'); go_simp
                try with_reducible rfl
              simp only [Act.put, List.setIfInBounds_toArray, List.set_cons_zero, List.set_cons_succ]
              refine plan_take 21 (v := ?_) rfl (by kernel_rfl) (by kernel_rfl) (by kernel_rfl) (fun _ _ _ h => h) (by rfl) hS0 (fun w' hS' => ?_) ?_
              rotate_left
              · (try dsimp only at hS'); go_simp
                try with_reducible rfl
              simp only [Act.put, List.setIfInBounds_toArray, List.set_cons_zero, List.set_cons_succ]
              refine plan_take 22 (v := ?_) rfl (by kernel_rfl) (by kernel_rfl) (by kernel_rfl) (fun _ _ _ h => h) (by rfl) hS0 (fun w' hS' => ?_) ?_
              rotate_left
              · (try dsimp only at hS'); go_simp
                try with_reducible rfl
              simp only [Act.put, List.setIfInBounds_toArray, List.set_cons_zero, List.set_cons_succ]
              refine plan_take 23 (v := ?_) rfl (by kernel_rfl) (by kernel_rfl) (by kernel_rfl) (fun _ _ _ h => h) (by rfl) hS0 (fun w' hS' => ?_) ?_
              rotate_left
              · (try dsimp only at hS'); go_simp
                try with_reducible rfl
              simp only [Act.put, List.setIfInBounds_toArray, List.set_cons_zero, List.set_cons_succ]
              refine plan_take 24 (v := ?_) rfl (by kernel_rfl) (by kernel_rfl) (by kernel_rfl) (fun _ _ _ h => h) (by rfl) hS0 (fun w' hS' => ?_) ?_
              rotate_left
              · (try dsimp only at hS'); go_simp
                try with_reducible rfl
              simp only [Act.put, List.setIfInBounds_toArray, List.set_cons_zero, List.set_cons_succ]
              refine plan_take 25 (v := ?_) rfl (by kernel_rfl) (by kernel_rfl) (by kernel_rfl) (fun _ _ _ h => h) (by rfl) hS0 (fun w' hS' => ?_) ?_
              rotate_left
              · (try dsimp only at hS'); go_simp
                try with_reducible rfl
              simp only [Act.put, List.setIfInBounds_toArray, List.set_cons_zero, List.set_cons_succ]
              refine plan_take 26 (v := ?_) rfl (by kernel_rfl) (by kernel_rfl) (by kernel_rfl) (fun _ _ _ h => h) (by rfl) hS0 (fun w' hS' => ?_) ?_
              rotate_left
              · (try dsimp only at hS'); go_simp
                try with_reducible rfl
              simp only [Act.put, List.setIfInBounds_toArray, List.set_cons_zero, List.set_cons_succ]
              refine plan_take 27 (v := ?_) rfl (by kernel_rfl) (by kernel_rfl) (by kernel_rfl) (fun _ _ _ h => h) (by rfl) hS0 (fun w' hS' => ?_) ?_
              rotate_left
              · (try dsimp only at hS'); go_simp
                try with_reducible rfl
              simp only [Act.put, List.setIfInBounds_toArray, List.set_cons_zero, List.set_cons_succ]
              refine plan_take 28 (v := ?_) rfl (by kernel_rfl) (by kernel_rfl) (by kernel_rfl) (fun _ _ _ h => h) (by rfl) hS0 (fun w' hS' => ?_) ?_
              rotate_left
              · (try dsimp only at hS'); go_simp
                try with_reducible rfl
              simp only [Act.put, List.setIfInBounds_toArray, List.set_cons_zero, List.set_cons_succ]
              clear hS0 q0 q1 q2 q3 q4
              refine plan_step 29 rfl (by kernel_rfl) (fun K hK => ?_)
              go_wp2_with (refine wpList_storeRow rfl 121 (.tmp 2) (.tmp 25) rfl w.heap.size _ _ 121 HG8.out rfl rfl rfl HI.out HC1.out ?_)
              intro w9 hg9 hf9
              have hf9 : Fr (fun k => k = w.heap.size) w8 w9 := ((Fr.refl (fun k => k = w.heap.size) w8).drew).trans hf9 (fun _ _ e => e)
              go_wp2_with fail
              refine hK _ _ _ (fun _ h => h) hg9 ?_
              clear hK K
              refine plan_take 30 (v := ?_) rfl (by kernel_rfl) (by kernel_rfl) (by kernel_rfl) (fun _ _ _ h => h) (by rfl) hg9 (fun w' hS' => ?_) ?_
              rotate_left
              · (try dsimp only at hS'); go_simp
                try with_reducible rfl
              simp only [Act.put, List.setIfInBounds_toArray, List.set_cons_zero, List.set_cons_succ]
              refine plan_done (by kernel_rfl) ?_ _
              have F9 := hid (F0.there F8.out hf9 (fun i e => by omega))
              have R9 := hid (O8.out.1.keepR hf9 B8.out)
              have O9 := hid (O8.out.keep hf9 (fun q cs fz hq hc => by subst hq; rw [HG8.out] at hc; injection hc with hc; injection hc with _ hc; exact absurd hc (by decide)))
              have q := HQ.out _ hg9
              clear hg9 hf9
              go_wp2_with fail
              exact bodyPost_ret (v := .tuple #[.agg #[.int .i64 ((m1 + 1 : Nat) : Int), .int .i64 (g2 : Int), .int .i64 ((0 : Nat) : Int), .int .i64 (g4 : Int), .slice a7 0 c7], .bool true]) (by simp [results, Try.results72, go_sem, q.1, q.2.1, q.2.2.1, q.2.2.2.1, q.2.2.2.2]) rfl (by rw [HF.out]; exact ⟨_, rfl, O9.out, F9.out⟩)
            | succ mb =>
              have k5 : ((mb : Int) + 1 == 0) = false := by rw [beq_eq_false_iff_ne]; omega
              have k6 : decide ((mb : Int) + 1 = 0) = false := by simp; omega
              have HF : Hid (rdF l = none) := hid (by rw [HT.out, if_neg (fun h => by rcases h.2.2.2.2 with h | h; (omega); (have := HNB.out; rw [h] at this; simp at this))])
              refine plan_start (fun w' => w'.heap[w.heap.size]? = some (.cells #[.int .i64 ((m1 + 1 : Nat) : Int), .int .i64 (g2 : Int), .int .i64 ((0 : Nat) : Int), .int .i64 (g4 : Int), .slice a7 (mb + 1) c7] 121 (0, 0))) (by kernel_rfl) ?_
              have hS0 := HG8.out
              have q0 := fun w' h => (HQ.out w' h).1
              have q1 := fun w' h => (HQ.out w' h).2.1
              have q2 := fun w' h => (HQ.out w' h).2.2.1
              have q3 := fun w' h => (HQ.out w' h).2.2.2.1
              have q4 := fun w' h => (HQ.out w' h).2.2.2.2
              have hS0 : (fun w' => w'.heap[w.heap.size]? = some (.cells #[.int .i64 ((m1 + 1 : Nat) : Int), .int .i64 (g2 : Int), .int .i64 ((0 : Nat) : Int), .int .i64 (g4 : Int), .slice a7 (mb + 1) c7] 121 (0, 0))) w8.drew := HG8.out
              refine plan_take 0 (v := ?_) rfl (by kernel_rfl) (by kernel_rfl) (by kernel_rfl) (fun _ _ _ h => h) (by rfl) hS0 (fun w' hS' => ?_) ?_
              rotate_left
              · (try dsimp only at hS'); go_simp
                try with_reducible rfl
              simp only [Act.put, List.setIfInBounds_toArray, List.set_cons_zero, List.set_cons_succ]
              refine plan_take 1 (v := ?_) rfl (by kernel_rfl) (by kernel_rfl) (by kernel_rfl) (fun _ _ _ h => h) (by rfl) hS0 (fun w' hS' => ?_) ?_
              rotate_left
              · (try dsimp only at hS'); go_simp
                try with_reducible rfl
              simp only [Act.put, List.setIfInBounds_toArray, List.set_cons_zero, List.set_cons_succ]
              refine plan_take 2 (v := ?_) rfl (by kernel_rfl) (by kernel_rfl) (by kernel_rfl) (fun _ _ _ h => h) (by rfl) hS0 (fun w' hS' => ?_) ?_
              rotate_left
              · (try dsimp only at hS'); go_simp
                try with_reducible rfl
              simp only [Act.put, List.setIfInBounds_toArray, List.set_cons_zero, List.set_cons_succ]
              refine plan_take 3 (v := ?_) rfl (by kernel_rfl) (by kernel_rfl) (by kernel_rfl) (fun _ _ _ h => h) (by rfl) hS0 (fun w' hS' => ?_) ?_
              rotate_left
              · (try dsimp only at hS'); go_simp
                try with_reducible rfl
              simp only [Act.put, List.setIfInBounds_toArray, List.set_cons_zero, List.set_cons_succ]
              refine plan_take 4 (v := ?_) rfl (by kernel_rfl) (by kernel_rfl) (by kernel_rfl) (fun _ _ _ h => h) (by rfl) hS0 (fun w' hS' => ?_) ?_
              rotate_left
              · (try dsimp only at hS'); go_simp
                try with_reducible rfl
              simp only [Act.put, List.setIfInBounds_toArray, List.set_cons_zero, List.set_cons_succ]
              clear hS0 q0 q1 q2 q3 q4
              refine plan_step 5 rfl (by kernel_rfl) (fun K hK => ?_)
              go_wp2_with fail
              refine (rerr_l rb _ _ _ (L8.out.keep (Fr.refl F0 w8).drew (fun e => e))).mono ?_
              rintro e w9 ⟨rfl, rfl⟩
              go_wp2_with fail
              refine hK _ _ _ (fun _ h => h) HG8.out ?_
              clear hK K
              have q0 := fun w' h => (HQ.out w' h).1
              have q1 := fun w' h => (HQ.out w' h).2.1
              have q2 := fun w' h => (HQ.out w' h).2.2.1
              have q3 := fun w' h => (HQ.out w' h).2.2.2.1
              have q4 := fun w' h => (HQ.out w' h).2.2.2.2
              have hS0 : (fun w' => w'.heap[w.heap.size]? = some (.cells #[.int .i64 ((m1 + 1 : Nat) : Int), .int .i64 (g2 : Int), .int .i64 ((0 : Nat) : Int), .int .i64 (g4 : Int), .slice a7 (mb + 1) c7] 121 (0, 0))) w8.drew := HG8.out
              refine plan_take 6 (v := ?_) rfl (by kernel_rfl) (by kernel_rfl) (by kernel_rfl) (fun _ _ _ h => h) (by rfl) hS0 (fun w' hS' => ?_) ?_
              rotate_left
              · (try dsimp only at hS'); go_simp
                try with_reducible rfl
              simp only [Act.put, List.setIfInBounds_toArray, List.set_cons_zero, List.set_cons_succ]
              refine plan_take 7 (v := ?_) rfl (by kernel_rfl) (by kernel_rfl) (by kernel_rfl) (fun _ _ _ h => h) (by rfl) hS0 (fun w' hS' => ?_) ?_
              rotate_left
              · (try dsimp only at hS'); go_simp
                try with_reducible rfl
              simp only [Act.put, List.setIfInBounds_toArray, List.set_cons_zero, List.set_cons_succ]
              refine plan_take 8 (v := ?_) rfl (by kernel_rfl) (by kernel_rfl) (by kernel_rfl) (fun _ _ _ h => h) (by rfl) hS0 (fun w' hS' => ?_) ?_
              rotate_left
              · (try dsimp only at hS'); go_simp
                try with_reducible rfl
              simp only [Act.put, List.setIfInBounds_toArray, List.set_cons_zero, List.set_cons_succ]
              refine plan_take 9 (v := ?_) rfl (by kernel_rfl) (by kernel_rfl) (by kernel_rfl) (fun _ _ _ h => h) (by rfl) hS0 (fun w' hS' => ?_) ?_
              rotate_left
              · (try dsimp only at hS'); go_simp
                try with_reducible rfl
              simp only [Act.put, List.setIfInBounds_toArray, List.set_cons_zero, List.set_cons_succ]
              clear hS0 q0 q1 q2 q3 q4
              refine plan_step 10 rfl (by kernel_rfl) (fun K hK => ?_)
              go_wp2_with fail
              refine (rleft_l rb _ _ (L8.out.keep (Fr.refl F0 w8).drew (fun e => e))).mono ?_
              rintro e w9 ⟨rfl, rfl⟩
              go_wp2_with fail
              refine hK _ _ _ (fun _ h => h) HG8.out ?_
              clear hK K
              have q0 := fun w' h => (HQ.out w' h).1
              have q1 := fun w' h => (HQ.out w' h).2.1
              have q2 := fun w' h => (HQ.out w' h).2.2.1
              have q3 := fun w' h => (HQ.out w' h).2.2.2.1
              have q4 := fun w' h => (HQ.out w' h).2.2.2.2
              have hS0 : (fun w' => w'.heap[w.heap.size]? = some (.cells #[.int .i64 ((m1 + 1 : Nat) : Int), .int .i64 (g2 : Int), .int .i64 ((0 : Nat) : Int), .int .i64 (g4 : Int), .slice a7 (mb + 1) c7] 121 (0, 0))) w8.drew := HG8.out
              refine plan_take 11 (v := ?_) rfl (by kernel_rfl) (by kernel_rfl) (by kernel_rfl) (fun _ _ _ h => h) (by rfl) hS0 (fun w' hS' => ?_) ?_
              rotate_left
              · (try dsimp only at hS'); go_simp
                try with_reducible rfl
              simp only [Act.put, List.setIfInBounds_toArray, List.set_cons_zero, List.set_cons_succ]
              refine plan_take 12 (v := ?_) rfl (by kernel_rfl) (by kernel_rfl) (by kernel_rfl) (fun _ _ _ h => h) (by rfl) hS0 (fun w' hS' => ?_) ?_
              rotate_left
              · (try dsimp only at hS'); go_simp
                try with_reducible rfl
              simp only [Act.put, List.setIfInBounds_toArray, List.set_cons_zero, List.set_cons_succ]
              refine plan_take 13 (v := ?_) rfl (by kernel_rfl) (by kernel_rfl) (by kernel_rfl) (fun _ _ _ h => h) (by rfl) hS0 (fun w' hS' => ?_) ?_
              rotate_left
              · (try dsimp only at hS'); go_simp
                try with_reducible rfl
              simp only [Act.put, List.setIfInBounds_toArray, List.set_cons_zero, List.set_cons_succ]
              refine plan_take 14 (v := ?_) rfl (by kernel_rfl) (by kernel_rfl) (by kernel_rfl) (fun _ _ _ h => h) (by rfl) hS0 (fun w' hS' => ?_) ?_
              rotate_left
              · (try dsimp only at hS'); go_simp
                try with_reducible rfl
              simp only [Act.put, List.setIfInBounds_toArray, List.set_cons_zero, List.set_cons_succ]
              refine plan_take 15 (v := ?_) rfl (by kernel_rfl) (by kernel_rfl) (by kernel_rfl) (fun _ _ _ h => h) (by rfl) hS0 (fun w' hS' => ?_) ?_
              rotate_left
              · (try dsimp only at hS'); go_simp
                try with_reducible rfl
              simp only [Act.put, List.setIfInBounds_toArray, List.set_cons_zero, List.set_cons_succ]
              refine plan_take 16 (v := ?_) rfl (by kernel_rfl) (by kernel_rfl) (by kernel_rfl) (fun _ _ _ h => h) (by rfl) hS0 (fun w' hS' => ?_) ?_
              rotate_left
              · (try dsimp only at hS'); go_simp
                try with_reducible rfl
              simp only [Act.put, List.setIfInBounds_toArray, List.set_cons_zero, List.set_cons_succ]
              refine plan_take 17 (v := ?_) rfl (by kernel_rfl) (by kernel_rfl) (by kernel_rfl) (fun _ _ _ h => h) (by rfl) hS0 (fun w' hS' => ?_) ?_
              rotate_left
              · (try dsimp only at hS'); go_simp
                try with_reducible rfl
              simp only [Act.put, List.setIfInBounds_toArray, List.set_cons_zero, List.set_cons_succ]
              refine plan_take 18 (v := ?_) rfl (by kernel_rfl) (by kernel_rfl) (by kernel_rfl) (fun _ _ _ h => h) (by rfl) hS0 (fun w' hS' => ?_) ?_
              rotate_left
              · (try dsimp only at hS'); go_simp
                try with_reducible rfl
              simp only [Act.put, List.setIfInBounds_toArray, List.set_cons_zero, List.set_cons_succ]
              refine plan_take 19 (v := ?_) rfl (by kernel_rfl) (by kernel_rfl) (by kernel_rfl) (fun _ _ _ h => h) (by rfl) hS0 (fun w' hS' => ?_) ?_
              rotate_left
              · (try dsimp only at hS'); go_simp
                try with_reducible rfl
              simp only [Act.put, List.setIfInBounds_toArray, List.set_cons_zero, List.set_cons_succ]
              refine plan_take 20 (v := ?_) rfl (by kernel_rfl) (by kernel_rfl) (by kernel_rfl) (fun _ _ _ h => h) (by rfl) hS0 (fun w' hS' => ?_) ?_
              rotate_left
              · (try dsimp only at hS'); go_simp
                try with_reducible rfl
              simp only [Act.put, List.setIfInBounds_toArray, List.set_cons_zero, List.set_cons_succ]
              refine plan_take 21 (v := ?_) rfl (by kernel_rfl) (by kernel_rfl) (by kernel_rfl) (fun _ _ _ h => h) (by rfl) hS0 (fun w' hS' => ?_) ?_
              rotate_left
              · (try dsimp only at hS'); go_simp
                try with_reducible rfl
              simp only [Act.put, List.setIfInBounds_toArray, List.set_cons_zero, List.set_cons_succ]
              refine plan_take 22 (v := ?_) rfl (by kernel_rfl) (by kernel_rfl) (by kernel_rfl) (fun _ _ _ h => h) (by rfl) hS0 (fun w' hS' => ?_) ?_
              rotate_left
              · (try dsimp only at hS'); go_simp
                try with_reducible rfl
              simp only [Act.put, List.setIfInBounds_toArray, List.set_cons_zero, List.set_cons_succ]
              refine plan_take 23 (v := ?_) rfl (by kernel_rfl) (by kernel_rfl) (by kernel_rfl) (fun _ _ _ h => h) (by rfl) hS0 (fun w' hS' => ?_) ?_
              rotate_left
              · (try dsimp only at hS'); go_simp
                try with_reducible rfl
              simp only [Act.put, List.setIfInBounds_toArray, List.set_cons_zero, List.set_cons_succ]
              refine plan_take 24 (v := ?_) rfl (by kernel_rfl) (by kernel_rfl) (by kernel_rfl) (fun _ _ _ h => h) (by rfl) hS0 (fun w' hS' => ?_) ?_
              rotate_left
              · (try dsimp only at hS'); go_simp
                try with_reducible rfl
              simp only [Act.put, List.setIfInBounds_toArray, List.set_cons_zero, List.set_cons_succ]
              refine plan_take 25 (v := ?_) rfl (by kernel_rfl) (by kernel_rfl) (by kernel_rfl) (fun _ _ _ h => h) (by rfl) hS0 (fun w' hS' => ?_) ?_
              rotate_left
              · (try dsimp only at hS'); go_simp
                try with_reducible rfl
              simp only [Act.put, List.setIfInBounds_toArray, List.set_cons_zero, List.set_cons_succ]
              refine plan_take 26 (v := ?_) rfl (by kernel_rfl) (by kernel_rfl) (by kernel_rfl) (fun _ _ _ h => h) (by rfl) hS0 (fun w' hS' => ?_) ?_
              rotate_left
              · (try dsimp only at hS'); go_simp
                try with_reducible rfl
              simp only [Act.put, List.setIfInBounds_toArray, List.set_cons_zero, List.set_cons_succ]
              refine plan_take 27 (v := ?_) rfl (by kernel_rfl) (by kernel_rfl) (by kernel_rfl) (fun _ _ _ h => h) (by rfl) hS0 (fun w' hS' => ?_) ?_
              rotate_left
              · (try dsimp only at hS'); go_simp
                try with_reducible rfl
              simp only [Act.put, List.setIfInBounds_toArray, List.set_cons_zero, List.set_cons_succ]
              refine plan_take 28 (v := ?_) rfl (by kernel_rfl) (by kernel_rfl) (by kernel_rfl) (fun _ _ _ h => h) (by rfl) hS0 (fun w' hS' => ?_) ?_
              rotate_left
              · (try dsimp only at hS'); go_simp
                try with_reducible rfl
              simp only [Act.put, List.setIfInBounds_toArray, List.set_cons_zero, List.set_cons_succ]
              clear hS0 q0 q1 q2 q3 q4
              refine plan_step 29 rfl (by kernel_rfl) (fun K hK => ?_)
              go_wp2_with (refine wpList_storeRow rfl 121 (.tmp 2) (.tmp 25) rfl w.heap.size _ _ 121 HG8.out rfl rfl rfl HI.out HC1.out ?_)
              intro w9 hg9 hf9
              have hf9 : Fr (fun k => k = w.heap.size) w8 w9 := ((Fr.refl (fun k => k = w.heap.size) w8).drew).trans hf9 (fun _ _ e => e)
              go_wp2_with fail
              refine hK _ _ _ (fun _ h => h) hg9 ?_
              clear hK K
              refine plan_take 30 (v := ?_) rfl (by kernel_rfl) (by kernel_rfl) (by kernel_rfl) (fun _ _ _ h => h) (by rfl) hg9 (fun w' hS' => ?_) ?_
              rotate_left
              · (try dsimp only at hS'); go_simp
                try with_reducible rfl
              simp only [Act.put, List.setIfInBounds_toArray, List.set_cons_zero, List.set_cons_succ]
              refine plan_done (by kernel_rfl) ?_ _
              have F9 := hid (F0.there F8.out hf9 (fun i e => by omega))
              have R9 := hid (O8.out.1.keepR hf9 B8.out)
              have O9 := hid (O8.out.keep hf9 (fun q cs fz hq hc => by subst hq; rw [HG8.out] at hc; injection hc with hc; injection hc with _ hc; exact absurd hc (by decide)))
              have q := HQ.out _ hg9
              clear hg9 hf9
              go_wp2_with fail
              exact bodyPost_ret (v := .tuple #[.agg #[.int .i64 ((m1 + 1 : Nat) : Int), .int .i64 (g2 : Int), .int .i64 ((0 : Nat) : Int), .int .i64 (g4 : Int), .slice a7 (mb + 1) c7], .bool false]) (by simp [results, Try.results72, go_sem, q.1, q.2.1, q.2.2.1, q.2.2.2.1, q.2.2.2.2]) rfl (by rw [HF.out]; exact ⟨_, _, _, _, _, _, rfl, R9.out, F9.out⟩)
    · have k1 : (e5 == 0) = false := by simp [he5]
      have k2 : decide (e5 = 0) = false := by simp [he5]
      have HF : Hid (rdF l = none) := hid (by rw [HT.out, if_neg (fun h => he5 h.2.1)])
      clear he5
      refine plan_start (fun w' => w'.heap[w.heap.size]? = some (.cells #[.int .i64 (g1 : Int), .int .i64 (g2 : Int), .int .i64 (g3 : Int), .int .i64 (g4 : Int), .slice a7 nb c7] 121 (0, 0))) (by kernel_rfl) ?_
      have hS0 := HG8.out
      have q0 := fun w' h => (HQ.out w' h).1
      have q1 := fun w' h => (HQ.out w' h).2.1
      have q2 := fun w' h => (HQ.out w' h).2.2.1
      have q3 := fun w' h => (HQ.out w' h).2.2.2.1
      have q4 := fun w' h => (HQ.out w' h).2.2.2.2
      have hS0 : (fun w' => w'.heap[w.heap.size]? = some (.cells #[.int .i64 (g1 : Int), .int .i64 (g2 : Int), .int .i64 (g3 : Int), .int .i64 (g4 : Int), .slice a7 nb c7] 121 (0, 0))) w8.drew := HG8.out
      refine plan_take 0 (v := ?_) rfl (by kernel_rfl) (by kernel_rfl) (by kernel_rfl) (fun _ _ _ h => h) (by rfl) hS0 (fun w' hS' => ?_) ?_
      rotate_left
      · (try dsimp only at hS'); go_simp
        try with_reducible rfl
      simp only [Act.put, List.setIfInBounds_toArray, List.set_cons_zero, List.set_cons_succ]
      refine plan_take 1 (v := ?_) rfl (by kernel_rfl) (by kernel_rfl) (by kernel_rfl) (fun _ _ _ h => h) (by rfl) hS0 (fun w' hS' => ?_) ?_
      rotate_left
      · (try dsimp only at hS'); go_simp
        try with_reducible rfl
      simp only [Act.put, List.setIfInBounds_toArray, List.set_cons_zero, List.set_cons_succ]
      refine plan_take 2 (v := ?_) rfl (by kernel_rfl) (by kernel_rfl) (by kernel_rfl) (fun _ _ _ h => h) (by rfl) hS0 (fun w' hS' => ?_) ?_
      rotate_left
      · (try dsimp only at hS'); go_simp
        try with_reducible rfl
      simp only [Act.put, List.setIfInBounds_toArray, List.set_cons_zero, List.set_cons_succ]
      refine plan_take 3 (v := ?_) rfl (by kernel_rfl) (by kernel_rfl) (by kernel_rfl) (fun _ _ _ h => h) (by rfl) hS0 (fun w' hS' => ?_) ?_
      rotate_left
      · (try dsimp only at hS'); go_simp
        try with_reducible rfl
      simp only [Act.put, List.setIfInBounds_toArray, List.set_cons_zero, List.set_cons_succ]
      refine plan_take 4 (v := ?_) rfl (by kernel_rfl) (by kernel_rfl) (by kernel_rfl) (fun _ _ _ h => h) (by rfl) hS0 (fun w' hS' => ?_) ?_
      rotate_left
      · (try dsimp only at hS'); go_simp
        try with_reducible rfl
      simp only [Act.put, List.setIfInBounds_toArray, List.set_cons_zero, List.set_cons_succ]
      clear hS0 q0 q1 q2 q3 q4
      refine plan_step 5 rfl (by kernel_rfl) (fun K hK => ?_)
      go_wp2_with fail
      refine (rerr_l rb _ _ _ (L8.out.keep (Fr.refl F0 w8).drew (fun e => e))).mono ?_
      rintro e w9 ⟨rfl, rfl⟩
      go_wp2_with fail
      refine hK _ _ _ (fun _ h => h) HG8.out ?_
      clear hK K
      have q0 := fun w' h => (HQ.out w' h).1
      have q1 := fun w' h => (HQ.out w' h).2.1
      have q2 := fun w' h => (HQ.out w' h).2.2.1
      have q3 := fun w' h => (HQ.out w' h).2.2.2.1
      have q4 := fun w' h => (HQ.out w' h).2.2.2.2
      have hS0 : (fun w' => w'.heap[w.heap.size]? = some (.cells #[.int .i64 (g1 : Int), .int .i64 (g2 : Int), .int .i64 (g3 : Int), .int .i64 (g4 : Int), .slice a7 nb c7] 121 (0, 0))) w8.drew := HG8.out
      refine plan_take 6 (v := ?_) rfl (by kernel_rfl) (by kernel_rfl) (by kernel_rfl) (fun _ _ _ h => h) (by rfl) hS0 (fun w' hS' => ?_) ?_
      rotate_left
      · (try dsimp only at hS'); go_simp
        try with_reducible rfl
      simp only [Act.put, List.setIfInBounds_toArray, List.set_cons_zero, List.set_cons_succ]
      refine plan_take 7 (v := ?_) rfl (by kernel_rfl) (by kernel_rfl) (by kernel_rfl) (fun _ _ _ h => h) (by rfl) hS0 (fun w' hS' => ?_) ?_
      rotate_left
      · (try dsimp only at hS'); go_simp
        try with_reducible rfl
      simp only [Act.put, List.setIfInBounds_toArray, List.set_cons_zero, List.set_cons_succ]
      refine plan_take 8 (v := ?_) rfl (by kernel_rfl) (by kernel_rfl) (by kernel_rfl) (fun _ _ _ h => h) (by rfl) hS0 (fun w' hS' => ?_) ?_
      rotate_left
      · (try dsimp only at hS'); go_simp
        try with_reducible rfl
      simp only [Act.put, List.setIfInBounds_toArray, List.set_cons_zero, List.set_cons_succ]
      refine plan_skip 9 rfl (by kernel_rfl) (by kernel_rfl) (by kernel_rfl) (fun _ _ _ h => h) (by rfl) hS0 ?_
      simp only [Act.put, List.setIfInBounds_toArray, List.set_cons_zero, List.set_cons_succ]
      refine plan_skip 10 rfl (by kernel_rfl) (by kernel_rfl) (by kernel_rfl) (fun _ _ _ h => h) (by rfl) hS0 ?_
      simp only [Act.put, List.setIfInBounds_toArray, List.set_cons_zero, List.set_cons_succ]
      refine plan_skip 11 rfl (by kernel_rfl) (by kernel_rfl) (by kernel_rfl) (fun _ _ _ h => h) (by rfl) hS0 ?_
      simp only [Act.put, List.setIfInBounds_toArray, List.set_cons_zero, List.set_cons_succ]
      refine plan_take 12 (v := ?_) rfl (by kernel_rfl) (by kernel_rfl) (by kernel_rfl) (fun _ _ _ h => h) (by rfl) hS0 (fun w' hS' => ?_) ?_
      rotate_left
      · (try dsimp only at hS'); go_simp
        try with_reducible rfl
      simp only [Act.put, List.setIfInBounds_toArray, List.set_cons_zero, List.set_cons_succ]
      refine plan_take 13 (v := ?_) rfl (by kernel_rfl) (by kernel_rfl) (by kernel_rfl) (fun _ _ _ h => h) (by rfl) hS0 (fun w' hS' => ?_) ?_
      rotate_left
      · (try dsimp only at hS'); go_simp
        try with_reducible rfl
      simp only [Act.put, List.setIfInBounds_toArray, List.set_cons_zero, List.set_cons_succ]
      refine plan_skip 14 rfl (by kernel_rfl) (by kernel_rfl) (by kernel_rfl) (fun _ _ _ h => h) (by rfl) hS0 ?_
      simp only [Act.put, List.setIfInBounds_toArray, List.set_cons_zero, List.set_cons_succ]
      refine plan_skip 15 rfl (by kernel_rfl) (by kernel_rfl) (by kernel_rfl) (fun _ _ _ h => h) (by rfl) hS0 ?_
      simp only [Act.put, List.setIfInBounds_toArray, List.set_cons_zero, List.set_cons_succ]
      refine plan_skip 16 rfl (by kernel_rfl) (by kernel_rfl) (by kernel_rfl) (fun _ _ _ h => h) (by rfl) hS0 ?_
      simp only [Act.put, List.setIfInBounds_toArray, List.set_cons_zero, List.set_cons_succ]
      refine plan_take 17 (v := ?_) rfl (by kernel_rfl) (by kernel_rfl) (by kernel_rfl) (fun _ _ _ h => h) (by rfl) hS0 (fun w' hS' => ?_) ?_
      rotate_left
      · (try dsimp only at hS'); go_simp
        try with_reducible rfl
      simp only [Act.put, List.setIfInBounds_toArray, List.set_cons_zero, List.set_cons_succ]
      refine plan_take 18 (v := ?_) rfl (by kernel_rfl) (by kernel_rfl) (by kernel_rfl) (fun _ _ _ h => h) (by rfl) hS0 (fun w' hS' => ?_) ?_
      rotate_left
      · (try dsimp only at hS'); go_simp
        try with_reducible rfl
      simp only [Act.put, List.setIfInBounds_toArray, List.set_cons_zero, List.set_cons_succ]
      refine plan_skip 19 rfl (by kernel_rfl) (by kernel_rfl) (by kernel_rfl) (fun _ _ _ h => h) (by rfl) hS0 ?_
      simp only [Act.put, List.setIfInBounds_toArray, List.set_cons_zero, List.set_cons_succ]
      refine plan_skip 20 rfl (by kernel_rfl) (by kernel_rfl) (by kernel_rfl) (fun _ _ _ h => h) (by rfl) hS0 ?_
      simp only [Act.put, List.setIfInBounds_toArray, List.set_cons_zero, List.set_cons_succ]
      refine plan_skip 21 rfl (by kernel_rfl) (by kernel_rfl) (by kernel_rfl) (fun _ _ _ h => h) (by rfl) hS0 ?_
      simp only [Act.put, List.setIfInBounds_toArray, List.set_cons_zero, List.set_cons_succ]
      refine plan_skip 22 rfl (by kernel_rfl) (by kernel_rfl) (by kernel_rfl) (fun _ _ _ h => h) (by rfl) hS0 ?_
      simp only [Act.put, List.setIfInBounds_toArray, List.set_cons_zero, List.set_cons_succ]
      refine plan_skip 23 rfl (by kernel_rfl) (by kernel_rfl) (by kernel_rfl) (fun _ _ _ h => h) (by rfl) hS0 ?_
      simp only [Act.put, List.setIfInBounds_toArray, List.set_cons_zero, List.set_cons_succ]
      refine plan_skip 24 rfl (by kernel_rfl) (by kernel_rfl) (by kernel_rfl) (fun _ _ _ h => h) (by rfl) hS0 ?_
      simp only [Act.put, List.setIfInBounds_toArray, List.set_cons_zero, List.set_cons_succ]
      refine plan_skip 25 rfl (by kernel_rfl) (by kernel_rfl) (by kernel_rfl) (fun _ _ _ h => h) (by rfl) hS0 ?_
      simp only [Act.put, List.setIfInBounds_toArray, List.set_cons_zero, List.set_cons_succ]
      refine plan_skip 26 rfl (by kernel_rfl) (by kernel_rfl) (by kernel_rfl) (fun _ _ _ h => h) (by rfl) hS0 ?_
      simp only [Act.put, List.setIfInBounds_toArray, List.set_cons_zero, List.set_cons_succ]
      refine plan_skip 27 rfl (by kernel_rfl) (by kernel_rfl) (by kernel_rfl) (fun _ _ _ h => h) (by rfl) hS0 ?_
      simp only [Act.put, List.setIfInBounds_toArray, List.set_cons_zero, List.set_cons_succ]
      refine plan_take 28 (v := ?_) rfl (by kernel_rfl) (by kernel_rfl) (by kernel_rfl) (fun _ _ _ h => h) (by rfl) hS0 (fun w' hS' => ?_) ?_
      rotate_left
      · (try dsimp only at hS'); go_simp
        try with_reducible rfl
      simp only [Act.put, List.setIfInBounds_toArray, List.set_cons_zero, List.set_cons_succ]
      clear hS0 q0 q1 q2 q3 q4
      refine plan_step 29 rfl (by kernel_rfl) (fun K hK => ?_)
      go_wp2_with (refine wpList_storeRow rfl 121 (.tmp 2) (.tmp 25) rfl w.heap.size _ _ 121 HG8.out rfl rfl rfl HI.out HC1.out ?_)
      intro w9 hg9 hf9
      have hf9 : Fr (fun k => k = w.heap.size) w8 w9 := ((Fr.refl (fun k => k = w.heap.size) w8).drew).trans hf9 (fun _ _ e => e)
      go_wp2_with fail
      refine hK _ _ _ (fun _ h => h) hg9 ?_
      clear hK K
      refine plan_take 30 (v := ?_) rfl (by kernel_rfl) (by kernel_rfl) (by kernel_rfl) (fun _ _ _ h => h) (by rfl) hg9 (fun w' hS' => ?_) ?_
      rotate_left
      · (try dsimp only at hS'); go_simp
        try with_reducible rfl
      simp only [Act.put, List.setIfInBounds_toArray, List.set_cons_zero, List.set_cons_succ]
      refine plan_done (by kernel_rfl) ?_ _
      have F9 := hid (F0.there F8.out hf9 (fun i e => by omega))
      have R9 := hid (O8.out.1.keepR hf9 B8.out)
      have O9 := hid (O8.out.keep hf9 (fun q cs fz hq hc => by subst hq; rw [HG8.out] at hc; injection hc with hc; injection hc with _ hc; exact absurd hc (by decide)))
      have q := HQ.out _ hg9
      clear hg9 hf9
      go_wp2_with fail
      exact bodyPost_ret (v := .tuple #[.agg #[.int .i64 (g1 : Int), .int .i64 (g2 : Int), .int .i64 (g3 : Int), .int .i64 (g4 : Int), .slice a7 nb c7], .bool false]) (by simp [results, Try.results72, go_sem, q.1, q.2.1, q.2.2.1, q.2.2.2.1, q.2.2.2.2]) rfl (by rw [HF.out]; exact ⟨_, _, _, _, _, _, rfl, R9.out, F9.out⟩)
  · have k1 : (e0 == 0) = false := by simp [he0]
    have k2 : decide (e0 = 0) = false := by simp [he0]
    have HF : Hid (rdF l = none) := hid (by rw [HT.out, if_neg (fun h => he0 h.1)])
    clear he0
    refine plan_start (fun w' => w'.heap[w.heap.size]? = some (.cells #[.int .i64 (g1 : Int), .int .i64 (g2 : Int), .int .i64 (g3 : Int), .int .i64 (g4 : Int), .slice a7 nb c7] 121 (0, 0))) (by kernel_rfl) ?_
    have hS0 := HG8.out
    have q0 := fun w' h => (HQ.out w' h).1
    have q1 := fun w' h => (HQ.out w' h).2.1
    have q2 := fun w' h => (HQ.out w' h).2.2.1
    have q3 := fun w' h => (HQ.out w' h).2.2.2.1
    have q4 := fun w' h => (HQ.out w' h).2.2.2.2
    have hS0 : (fun w' => w'.heap[w.heap.size]? = some (.cells #[.int .i64 (g1 : Int), .int .i64 (g2 : Int), .int .i64 (g3 : Int), .int .i64 (g4 : Int), .slice a7 nb c7] 121 (0, 0))) w8.drew := HG8.out
    refine plan_take 0 (v := ?_) rfl (by kernel_rfl) (by kernel_rfl) (by kernel_rfl) (fun _ _ _ h => h) (by rfl) hS0 (fun w' hS' => ?_) ?_
    rotate_left
    · (try dsimp only at hS'); go_simp
      try with_reducible rfl
    simp only [Act.put, List.setIfInBounds_toArray, List.set_cons_zero, List.set_cons_succ]
    refine plan_take 1 (v := ?_) rfl (by kernel_rfl) (by kernel_rfl) (by kernel_rfl) (fun _ _ _ h => h) (by rfl) hS0 (fun w' hS' => ?_) ?_
    rotate_left
    · (try dsimp only at hS'); go_simp
      try with_reducible rfl
    simp only [Act.put, List.setIfInBounds_toArray, List.set_cons_zero, List.set_cons_succ]
    refine plan_take 2 (v := ?_) rfl (by kernel_rfl) (by kernel_rfl) (by kernel_rfl) (fun _ _ _ h => h) (by rfl) hS0 (fun w' hS' => ?_) ?_
    rotate_left
    · (try dsimp only at hS'); go_simp
      try with_reducible rfl
    simp only [Act.put, List.setIfInBounds_toArray, List.set_cons_zero, List.set_cons_succ]
    refine plan_take 3 (v := ?_) rfl (by kernel_rfl) (by kernel_rfl) (by kernel_rfl) (fun _ _ _ h => h) (by rfl) hS0 (fun w' hS' => ?_) ?_
    rotate_left
    · (try dsimp only at hS'); go_simp
      try with_reducible rfl
    simp only [Act.put, List.setIfInBounds_toArray, List.set_cons_zero, List.set_cons_succ]
    refine plan_skip 4 rfl (by kernel_rfl) (by kernel_rfl) (by kernel_rfl) (fun _ _ _ h => h) (by rfl) hS0 ?_
    simp only [Act.put, List.setIfInBounds_toArray, List.set_cons_zero, List.set_cons_succ]
    refine plan_skip 5 rfl (by kernel_rfl) (by kernel_rfl) (by kernel_rfl) (fun _ _ _ h => h) (by rfl) hS0 ?_
    simp only [Act.put, List.setIfInBounds_toArray, List.set_cons_zero, List.set_cons_succ]
    refine plan_skip 6 rfl (by kernel_rfl) (by kernel_rfl) (by kernel_rfl) (fun _ _ _ h => h) (by rfl) hS0 ?_
    simp only [Act.put, List.setIfInBounds_toArray, List.set_cons_zero, List.set_cons_succ]
    refine plan_take 7 (v := ?_) rfl (by kernel_rfl) (by kernel_rfl) (by kernel_rfl) (fun _ _ _ h => h) (by rfl) hS0 (fun w' hS' => ?_) ?_
    rotate_left
    · (try dsimp only at hS'); go_simp
      try with_reducible rfl
    simp only [Act.put, List.setIfInBounds_toArray, List.set_cons_zero, List.set_cons_succ]
    refine plan_take 8 (v := ?_) rfl (by kernel_rfl) (by kernel_rfl) (by kernel_rfl) (fun _ _ _ h => h) (by rfl) hS0 (fun w' hS' => ?_) ?_
    rotate_left
    · (try dsimp only at hS'); go_simp
      try with_reducible rfl
    simp only [Act.put, List.setIfInBounds_toArray, List.set_cons_zero, List.set_cons_succ]
    refine plan_skip 9 rfl (by kernel_rfl) (by kernel_rfl) (by kernel_rfl) (fun _ _ _ h => h) (by rfl) hS0 ?_
    simp only [Act.put, List.setIfInBounds_toArray, List.set_cons_zero, List.set_cons_succ]
    refine plan_skip 10 rfl (by kernel_rfl) (by kernel_rfl) (by kernel_rfl) (fun _ _ _ h => h) (by rfl) hS0 ?_
    simp only [Act.put, List.setIfInBounds_toArray, List.set_cons_zero, List.set_cons_succ]
    refine plan_skip 11 rfl (by kernel_rfl) (by kernel_rfl) (by kernel_rfl) (fun _ _ _ h => h) (by rfl) hS0 ?_
    simp only [Act.put, List.setIfInBounds_toArray, List.set_cons_zero, List.set_cons_succ]
    refine plan_take 12 (v := ?_) rfl (by kernel_rfl) (by kernel_rfl) (by kernel_rfl) (fun _ _ _ h => h) (by rfl) hS0 (fun w' hS' => ?_) ?_
    rotate_left
    · (try dsimp only at hS'); go_simp
      try with_reducible rfl
    simp only [Act.put, List.setIfInBounds_toArray, List.set_cons_zero, List.set_cons_succ]
    refine plan_take 13 (v := ?_) rfl (by kernel_rfl) (by kernel_rfl) (by kernel_rfl) (fun _ _ _ h => h) (by rfl) hS0 (fun w' hS' => ?_) ?_
    rotate_left
    · (try dsimp only at hS'); go_simp
      try with_reducible rfl
    simp only [Act.put, List.setIfInBounds_toArray, List.set_cons_zero, List.set_cons_succ]
    refine plan_skip 14 rfl (by kernel_rfl) (by kernel_rfl) (by kernel_rfl) (fun _ _ _ h => h) (by rfl) hS0 ?_
    simp only [Act.put, List.setIfInBounds_toArray, List.set_cons_zero, List.set_cons_succ]
    refine plan_skip 15 rfl (by kernel_rfl) (by kernel_rfl) (by kernel_rfl) (fun _ _ _ h => h) (by rfl) hS0 ?_
    simp only [Act.put, List.setIfInBounds_toArray, List.set_cons_zero, List.set_cons_succ]
    refine plan_skip 16 rfl (by kernel_rfl) (by kernel_rfl) (by kernel_rfl) (fun _ _ _ h => h) (by rfl) hS0 ?_
    simp only [Act.put, List.setIfInBounds_toArray, List.set_cons_zero, List.set_cons_succ]
    refine plan_take 17 (v := ?_) rfl (by kernel_rfl) (by kernel_rfl) (by kernel_rfl) (fun _ _ _ h => h) (by rfl) hS0 (fun w' hS' => ?_) ?_
    rotate_left
    · (try dsimp only at hS'); go_simp
      try with_reducible rfl
    simp only [Act.put, List.setIfInBounds_toArray, List.set_cons_zero, List.set_cons_succ]
    refine plan_take 18 (v := ?_) rfl (by kernel_rfl) (by kernel_rfl) (by kernel_rfl) (fun _ _ _ h => h) (by rfl) hS0 (fun w' hS' => ?_) ?_
    rotate_left
    · (try dsimp only at hS'); go_simp
      try with_reducible rfl
    simp only [Act.put, List.setIfInBounds_toArray, List.set_cons_zero, List.set_cons_succ]
    refine plan_skip 19 rfl (by kernel_rfl) (by kernel_rfl) (by kernel_rfl) (fun _ _ _ h => h) (by rfl) hS0 ?_
    simp only [Act.put, List.setIfInBounds_toArray, List.set_cons_zero, List.set_cons_succ]
    refine plan_skip 20 rfl (by kernel_rfl) (by kernel_rfl) (by kernel_rfl) (fun _ _ _ h => h) (by rfl) hS0 ?_
    simp only [Act.put, List.setIfInBounds_toArray, List.set_cons_zero, List.set_cons_succ]
    refine plan_skip 21 rfl (by kernel_rfl) (by kernel_rfl) (by kernel_rfl) (fun _ _ _ h => h) (by rfl) hS0 ?_
    simp only [Act.put, List.setIfInBounds_toArray, List.set_cons_zero, List.set_cons_succ]
    refine plan_skip 22 rfl (by kernel_rfl) (by kernel_rfl) (by kernel_rfl) (fun _ _ _ h => h) (by rfl) hS0 ?_
    simp only [Act.put, List.setIfInBounds_toArray, List.set_cons_zero, List.set_cons_succ]
    refine plan_skip 23 rfl (by kernel_rfl) (by kernel_rfl) (by kernel_rfl) (fun _ _ _ h => h) (by rfl) hS0 ?_
    simp only [Act.put, List.setIfInBounds_toArray, List.set_cons_zero, List.set_cons_succ]
    refine plan_skip 24 rfl (by kernel_rfl) (by kernel_rfl) (by kernel_rfl) (fun _ _ _ h => h) (by rfl) hS0 ?_
    simp only [Act.put, List.setIfInBounds_toArray, List.set_cons_zero, List.set_cons_succ]
    refine plan_skip 25 rfl (by kernel_rfl) (by kernel_rfl) (by kernel_rfl) (fun _ _ _ h => h) (by rfl) hS0 ?_
    simp only [Act.put, List.setIfInBounds_toArray, List.set_cons_zero, List.set_cons_succ]
    refine plan_skip 26 rfl (by kernel_rfl) (by kernel_rfl) (by kernel_rfl) (fun _ _ _ h => h) (by rfl) hS0 ?_
    simp only [Act.put, List.setIfInBounds_toArray, List.set_cons_zero, List.set_cons_succ]
    refine plan_skip 27 rfl (by kernel_rfl) (by kernel_rfl) (by kernel_rfl) (fun _ _ _ h => h) (by rfl) hS0 ?_
    simp only [Act.put, List.setIfInBounds_toArray, List.set_cons_zero, List.set_cons_succ]
    refine plan_take 28 (v := ?_) rfl (by kernel_rfl) (by kernel_rfl) (by kernel_rfl) (fun _ _ _ h => h) (by rfl) hS0 (fun w' hS' => ?_) ?_
    rotate_left
    · (try dsimp only at hS'); go_simp
      try with_reducible rfl
    simp only [Act.put, List.setIfInBounds_toArray, List.set_cons_zero, List.set_cons_succ]
    clear hS0 q0 q1 q2 q3 q4
    refine plan_step 29 rfl (by kernel_rfl) (fun K hK => ?_)
    go_wp2_with (refine wpList_storeRow rfl 121 (.tmp 2) (.tmp 25) rfl w.heap.size _ _ 121 HG8.out rfl rfl rfl HI.out HC1.out ?_)
    intro w9 hg9 hf9
    have hf9 : Fr (fun k => k = w.heap.size) w8 w9 := ((Fr.refl (fun k => k = w.heap.size) w8).drew).trans hf9 (fun _ _ e => e)
    go_wp2_with fail
    refine hK _ _ _ (fun _ h => h) hg9 ?_
    clear hK K
    refine plan_take 30 (v := ?_) rfl (by kernel_rfl) (by kernel_rfl) (by kernel_rfl) (fun _ _ _ h => h) (by rfl) hg9 (fun w' hS' => ?_) ?_
    rotate_left
    · (try dsimp only at hS'); go_simp
      try with_reducible rfl
    simp only [Act.put, List.setIfInBounds_toArray, List.set_cons_zero, List.set_cons_succ]
    refine plan_done (by kernel_rfl) ?_ _
    have F9 := hid (F0.there F8.out hf9 (fun i e => by omega))
    have R9 := hid (O8.out.1.keepR hf9 B8.out)
    have O9 := hid (O8.out.keep hf9 (fun q cs fz hq hc => by subst hq; rw [HG8.out] at hc; injection hc with hc; injection hc with _ hc; exact absurd hc (by decide)))
    have q := HQ.out _ hg9
    clear hg9 hf9
    go_wp2_with fail
    exact bodyPost_ret (v := .tuple #[.agg #[.int .i64 (g1 : Int), .int .i64 (g2 : Int), .int .i64 (g3 : Int), .int .i64 (g4 : Int), .slice a7 nb c7], .bool false]) (by simp [results, Try.results72, go_sem, q.1, q.2.1, q.2.2.1, q.2.2.2.1, q.2.2.2.2]) rfl (by rw [HF.out]; exact ⟨_, _, _, _, _, _, rfl, R9.out, F9.out⟩)

end Go.Proofs.Ytfalaopljodmnaa
