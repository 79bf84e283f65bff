/- linnetlaw20.SessionFrames: the walk. -/
import Derived.Test.YtfalaopljodmnaaSesU
namespace Go.Proofs.Ytfalaopljodmnaa
open Go.RowKit Go.Maps

theorem mk_eq {n : Int} (h : 0 ≤ n) : Value.int .i64 n = .int .i64 (n.toNat : Int) := by congr 1; omega

/-- The end: nothing of a session that is none. -/
theorem rd_form {w : World} {v : Value} {l : List UInt8} (h : Rd w v l) : ∃ a n c, v = .slice a n c := by
  obtain ⟨a, c, e, _⟩ := h.form; exact ⟨a, _, c, e⟩

/-- A session in blocks made since w. -/
def SesN (w W : World) (sb : Nat) (S : St) : Prop := ∃ rv vs mb N, Se W sb S rv vs mb N ∧ ∀ k, SeM sb rv mb k → w.heap.size ≤ k

theorem SesN.keep0 {w W W' : World} {sb : Nat} {S : St} (h : SesN w W sb S) (f : Fr F0 W W') : SesN w W' sb S :=
  let ⟨rv, vs, mb, N, h1, h2⟩ := h; ⟨rv, vs, mb, N, h1.keep0 f, h2⟩

theorem in_l (S : St) (F : Flds) : (inSt S F).1.l.length ≤ S.l.length := by
  have h1 : (metSt S F).l.length ≤ S.l.length := by unfold metSt; split <;> simp [meetSt]
  have h2 : (gotSt S F).l.length ≤ S.l.length := by unfold gotSt ackSt; simp; omega
  unfold inSt
  split
  · exact Nat.le_refl _
  · split
    · exact h2
    · exact h2

theorem opened_of {b : List UInt8} {F : Flds} (h : rdF b = some F) : (opened b).isSome = true := by
  unfold rdF at h
  cases ho : opened b with
  | none => rw [ho] at h; cases h
  | some x => rfl

set_option maxRecDepth 100000 in
set_option maxHeartbeats 3200000 in
theorem frames_ok (v : Value) (b : List UInt8) (n epoch wait : Int) (w : World) (hb : Rd w v b) (hl : b.length ≤ 300) (hn0 : 0 ≤ n) (hn1 : n ≤ 41000) (e1 : 1 ≤ epoch) (e2 : epoch ≤ 2147483647) (w1 : 1 ≤ wait) (w2 : wait ≤ 1000) :
    Calls Try.prog 12 #[v, .int .i64 n, .int .i64 epoch, .int .i64 wait] w (Yes w) := by
  obtain ⟨a0, c0, rfl, _⟩ := hb.form
  obtain ⟨k, HK⟩ : ∃ k, Hid (b.length = k) := ⟨_, hid rfl⟩
  have HLB : Hid (b.length ≤ 35184372088832) := hid (by omega)
  rw [HK.out] at hb hl ⊢
  have hl' : ¬ 300 < (k : Int) := by omega
  have HB := hid hb
  clear hb hl
  obtain ⟨m, rfl⟩ : ∃ m : Nat, n = m := ⟨n.toNat, by omega⟩
  have hm : m ≤ 41000 := by omega
  clear hn0 hn1
  cases ho : rdF b with
  | none =>
    have HO := hid ho
    clear ho
    have HL3 : Hid ((fresh epoch wait).l.length < 200) := hid (by simp [fresh])
    by_cases hs : m ≤ 40000
    · have hs' : (m : Int) ≤ 40000 := by omega
      go_enter Try.func12, Try.ntmps12
      go_wp2_with fail
      refine (new_c epoch wait _ e1 e2 w1 w2).mono ?_
      rintro e w1' ⟨sb, mb, rfl, s1, f1, n1⟩
      have S1 := hid s1
      have N1 := hid n1
      have F1 := hid f1
      clear s1 f1 n1
      go_wp2_with fail
      refine (peek_c _ b _ (HB.out.keep0 F1.out) HLB.out).mono ?_
      rintro e w2' hp
      rw [HO.out] at hp
      obtain ⟨rfl, f2⟩ := hp
      have S2 := hid (S1.out.keep0 f2)
      have F2 := hid (F0.and F1.out f2)
      clear f2 S1 F1
      go_wp2_with fail
      refine (in_none _ _ b 0 _ (HB.out.keep0 F2.out) HLB.out HO.out).mono ?_
      rintro e w3 ⟨rfl, f3⟩
      have S3 : Hid (SesN w w3 sb (fresh epoch wait)) := hid ⟨_, _, _, _, S2.out.keep0 f3, N1.out⟩
      have F3 := hid (F0.and F2.out f3)
      clear f3 S2 F2
      go_wp2_with (refine wpList_mkB rfl (.tmp 93) (.tmp 93) 25 rfl 5 Try.underlying25 infoB m rfl rfl (by omega) ?_)
      intro w4 o4 f4 z4
      have S4 := hid (S3.out.keep0 f4)
      have F4 := hid (F0.and F3.out f4)
      have O4 := hid o4
      clear o4 f4 z4 S3 F3
      go_wp2_with fail
      obtain ⟨rv4, vs4, mb4, N4, s4, n4⟩ := S4.out
      refine (send_c sb _ rv4 vs4 mb4 N4 _ (List.replicate m 0) _ s4 O4.out.rd (by simp; omega) HL3.out).mono ?_
      rintro e w5 ⟨rfl, rv5, v5, s5, f5, o5⟩
      have F5 := hid (Fr.trans F4.out f5 (fun k hk e => by have := n4 k e; omega))
      clear s4 n4 s5 f5 o5 S4 O4 F4
      go_wp2_with fail
      refine (ropen_c _ b _ (HB.out.keep0 F5.out) HLB.out).mono ?_
      rintro e w6 ⟨r6, rfl, h6, f6, _⟩
      obtain ⟨a6, n6, c6, rfl⟩ := rd_form h6
      have F6 := hid (F0.and F5.out f6)
      clear h6 f6 F5
      generalize (if (opened b).isSome = true then (0 : Int) else 2) = ie at *
      by_cases hie : ie = 0
      · subst hie
        go_wp2_with fail
        refine (in_nil _ b 0 _ (HB.out.keep0 F6.out) HLB.out).mono ?_
        rintro e w7 ⟨rfl, f7⟩
        rw [HO.out]
        dsimp only [Option.isSome]
        have F7 := hid (F0.and F6.out f7)
        clear f7 F6
        go_wp2_with fail
        refine (send_nil _ [] _ (Rd.nil _) (by simp)).mono ?_
        rintro e w8 ⟨rfl, rfl⟩
        go_wp2_with fail
        refine (out_nil 0 _).mono ?_
        rintro e w8 ⟨rfl, rfl⟩
        go_wp2_with fail
        refine (waiting_nil _).mono ?_
        rintro e w8 ⟨rfl, rfl⟩
        go_wp2_with fail
        refine (epoch_nil _).mono ?_
        rintro e w8 ⟨rfl, rfl⟩
        go_wp2_with fail
        refine (peer_nil _).mono ?_
        rintro e w8 ⟨rfl, rfl⟩
        go_wp2_with fail
        refine (awake20_c _).mono ?_
        rintro e w8 ⟨rfl, f8⟩
        have F8 := hid (F0.and F7.out f8)
        clear f8
        go_wp2_with fail
        go_ret
        exact ⟨rfl, F8.out⟩
      · go_wp2_with fail
        refine (in_nil _ b 0 _ (HB.out.keep0 F6.out) HLB.out).mono ?_
        rintro e w7 ⟨rfl, f7⟩
        rw [HO.out]
        dsimp only [Option.isSome]
        have F7 := hid (F0.and F6.out f7)
        clear f7 F6
        go_wp2_with fail
        refine (send_nil _ [] _ (Rd.nil _) (by simp)).mono ?_
        rintro e w8 ⟨rfl, rfl⟩
        go_wp2_with fail
        refine (out_nil 0 _).mono ?_
        rintro e w8 ⟨rfl, rfl⟩
        go_wp2_with fail
        refine (waiting_nil _).mono ?_
        rintro e w8 ⟨rfl, rfl⟩
        go_wp2_with fail
        refine (epoch_nil _).mono ?_
        rintro e w8 ⟨rfl, rfl⟩
        go_wp2_with fail
        refine (peer_nil _).mono ?_
        rintro e w8 ⟨rfl, rfl⟩
        go_wp2_with fail
        refine (awake20_c _).mono ?_
        rintro e w8 ⟨rfl, f8⟩
        have F8 := hid (F0.and F7.out f8)
        clear f8
        go_wp2_with fail
        go_ret
        exact ⟨rfl, F8.out⟩
    · have hs' : ¬ (m : Int) ≤ 40000 := by omega
      go_enter Try.func12, Try.ntmps12
      go_wp2_with fail
      refine (new_c epoch wait _ e1 e2 w1 w2).mono ?_
      rintro e w1' ⟨sb, mb, rfl, s1, f1, n1⟩
      have S1 := hid s1
      have N1 := hid n1
      have F1 := hid f1
      clear s1 f1 n1
      go_wp2_with fail
      refine (peek_c _ b _ (HB.out.keep0 F1.out) HLB.out).mono ?_
      rintro e w2' hp
      rw [HO.out] at hp
      obtain ⟨rfl, f2⟩ := hp
      have S2 := hid (S1.out.keep0 f2)
      have F2 := hid (F0.and F1.out f2)
      clear f2 S1 F1
      go_wp2_with fail
      refine (in_none _ _ b 0 _ (HB.out.keep0 F2.out) HLB.out HO.out).mono ?_
      rintro e w3 ⟨rfl, f3⟩
      have S3 : Hid (SesN w w3 sb (fresh epoch wait)) := hid ⟨_, _, _, _, S2.out.keep0 f3, N1.out⟩
      have F3 := hid (F0.and F2.out f3)
      clear f3 S2 F2
      go_wp2_with (refine wpList_mkB rfl (.tmp 93) (.tmp 93) 25 rfl 5 Try.underlying25 infoB m rfl rfl (by omega) ?_)
      intro w4 o4 f4 z4
      have S4 := hid (S3.out.keep0 f4)
      have F4 := hid (F0.and F3.out f4)
      have O4 := hid o4
      clear o4 f4 z4 S3 F3
      go_wp2_with fail
      refine (send_big _ _ (List.replicate m 0) _ O4.out.rd (by simp; omega)).mono ?_
      rintro e w5 ⟨rfl, rfl⟩
      have F5 := F4
      clear S4 O4 F4
      go_wp2_with fail
      refine (ropen_c _ b _ (HB.out.keep0 F5.out) HLB.out).mono ?_
      rintro e w6 ⟨r6, rfl, h6, f6, _⟩
      obtain ⟨a6, n6, c6, rfl⟩ := rd_form h6
      have F6 := hid (F0.and F5.out f6)
      clear h6 f6 F5
      generalize (if (opened b).isSome = true then (0 : Int) else 2) = ie at *
      by_cases hie : ie = 0
      · subst hie
        go_wp2_with fail
        refine (in_nil _ b 0 _ (HB.out.keep0 F6.out) HLB.out).mono ?_
        rintro e w7 ⟨rfl, f7⟩
        rw [HO.out]
        dsimp only [Option.isSome]
        have F7 := hid (F0.and F6.out f7)
        clear f7 F6
        go_wp2_with fail
        refine (send_nil _ [] _ (Rd.nil _) (by simp)).mono ?_
        rintro e w8 ⟨rfl, rfl⟩
        go_wp2_with fail
        refine (out_nil 0 _).mono ?_
        rintro e w8 ⟨rfl, rfl⟩
        go_wp2_with fail
        refine (waiting_nil _).mono ?_
        rintro e w8 ⟨rfl, rfl⟩
        go_wp2_with fail
        refine (epoch_nil _).mono ?_
        rintro e w8 ⟨rfl, rfl⟩
        go_wp2_with fail
        refine (peer_nil _).mono ?_
        rintro e w8 ⟨rfl, rfl⟩
        go_wp2_with fail
        refine (awake20_c _).mono ?_
        rintro e w8 ⟨rfl, f8⟩
        have F8 := hid (F0.and F7.out f8)
        clear f8
        go_wp2_with fail
        go_ret
        exact ⟨rfl, F8.out⟩
      · go_wp2_with fail
        refine (in_nil _ b 0 _ (HB.out.keep0 F6.out) HLB.out).mono ?_
        rintro e w7 ⟨rfl, f7⟩
        rw [HO.out]
        dsimp only [Option.isSome]
        have F7 := hid (F0.and F6.out f7)
        clear f7 F6
        go_wp2_with fail
        refine (send_nil _ [] _ (Rd.nil _) (by simp)).mono ?_
        rintro e w8 ⟨rfl, rfl⟩
        go_wp2_with fail
        refine (out_nil 0 _).mono ?_
        rintro e w8 ⟨rfl, rfl⟩
        go_wp2_with fail
        refine (waiting_nil _).mono ?_
        rintro e w8 ⟨rfl, rfl⟩
        go_wp2_with fail
        refine (epoch_nil _).mono ?_
        rintro e w8 ⟨rfl, rfl⟩
        go_wp2_with fail
        refine (peer_nil _).mono ?_
        rintro e w8 ⟨rfl, rfl⟩
        go_wp2_with fail
        refine (awake20_c _).mono ?_
        rintro e w8 ⟨rfl, f8⟩
        have F8 := hid (F0.and F7.out f8)
        clear f8
        go_wp2_with fail
        go_ret
        exact ⟨rfl, F8.out⟩
  | some F =>
    have HOP := hid (opened_of ho)
    have HO := hid ho
    clear ho
    have HL3 : Hid ((inSt (fresh epoch wait) F).1.l.length < 200) := hid (by have := in_l (fresh epoch wait) F; have h2 : (fresh epoch wait).l.length = 0 := rfl; omega)
    have HSO := hid (fresh_ok e1 e2 w1 w2)
    by_cases hs : m ≤ 40000
    · have hs' : (m : Int) ≤ 40000 := by omega
      go_enter Try.func12, Try.ntmps12
      go_wp2_with fail
      refine (new_c epoch wait _ e1 e2 w1 w2).mono ?_
      rintro e w1' ⟨sb, mb, rfl, s1, f1, n1⟩
      have S1 := hid s1
      have N1 := hid n1
      have F1 := hid f1
      clear s1 f1 n1
      go_wp2_with fail
      refine (peek_c _ b _ (HB.out.keep0 F1.out) HLB.out).mono ?_
      rintro e w2' hp
      rw [HO.out] at hp
      obtain ⟨rfl, f2⟩ := hp
      have S2 := hid (S1.out.keep0 f2)
      have F2 := hid (F0.and F1.out f2)
      clear f2 S1 F1
      go_wp2_with fail
      refine (in_some sb _ _ _ _ _ _ b 0 _ F S2.out HSO.out (HB.out.keep0 F2.out) HLB.out HO.out (by omega)).mono ?_
      rintro e w3 ⟨r3, us3, rv3, vs3, mb3, rfl, s3, b3, f3, n3, o3⟩
      obtain ⟨ra, rn, rc, rfl⟩ := b3.formS
      have S3 : Hid (SesN w w3 sb (inSt (fresh epoch wait) F).1) := hid ⟨_, _, _, _, s3, fun k hk => (o3 k hk).elim (N1.out k) (fun e => Nat.le_trans F2.out.size e)⟩
      have F3 : Hid (Fr F0 w w3) := hid (Fr.trans F2.out f3 (fun k hk e => by have := N1.out k e; omega))
      clear s3 b3 f3 n3 o3 S2 F2
      go_wp2_with (refine wpList_mkB rfl (.tmp 93) (.tmp 93) 25 rfl 5 Try.underlying25 infoB m rfl rfl (by omega) ?_)
      intro w4 o4 f4 z4
      have S4 := hid (S3.out.keep0 f4)
      have F4 := hid (F0.and F3.out f4)
      have O4 := hid o4
      clear o4 f4 z4 S3 F3
      go_wp2_with fail
      obtain ⟨rv4, vs4, mb4, N4, s4, n4⟩ := S4.out
      refine (send_c sb _ rv4 vs4 mb4 N4 _ (List.replicate m 0) _ s4 O4.out.rd (by simp; omega) HL3.out).mono ?_
      rintro e w5 ⟨rfl, rv5, v5, s5, f5, o5⟩
      have F5 := hid (Fr.trans F4.out f5 (fun k hk e => by have := n4 k e; omega))
      clear s4 n4 s5 f5 o5 S4 O4 F4
      go_wp2_with fail
      refine (ropen_c _ b _ (HB.out.keep0 F5.out) HLB.out).mono ?_
      rintro e w6 ⟨r6, rfl, h6, f6, _⟩
      obtain ⟨a6, n6, c6, rfl⟩ := rd_form h6
      have F6 := hid (F0.and F5.out f6)
      clear h6 f6 F5
      rw [HOP.out]
      go_wp2_with fail
      refine (in_nil _ b 0 _ (HB.out.keep0 F6.out) HLB.out).mono ?_
      rintro e w7 ⟨rfl, f7⟩
      rw [HO.out]
      dsimp only [Option.isSome]
      have F7 := hid (F0.and F6.out f7)
      clear f7 F6
      go_wp2_with fail
      refine (send_nil _ [] _ (Rd.nil _) (by simp)).mono ?_
      rintro e w8 ⟨rfl, rfl⟩
      go_wp2_with fail
      refine (out_nil 0 _).mono ?_
      rintro e w8 ⟨rfl, rfl⟩
      go_wp2_with fail
      refine (waiting_nil _).mono ?_
      rintro e w8 ⟨rfl, rfl⟩
      go_wp2_with fail
      refine (epoch_nil _).mono ?_
      rintro e w8 ⟨rfl, rfl⟩
      go_wp2_with fail
      refine (peer_nil _).mono ?_
      rintro e w8 ⟨rfl, rfl⟩
      go_wp2_with fail
      refine (awake20_c _).mono ?_
      rintro e w8 ⟨rfl, f8⟩
      have F8 := hid (F0.and F7.out f8)
      clear f8
      go_wp2_with fail
      go_ret
      exact ⟨rfl, F8.out⟩
    · have hs' : ¬ (m : Int) ≤ 40000 := by omega
      go_enter Try.func12, Try.ntmps12
      go_wp2_with fail
      refine (new_c epoch wait _ e1 e2 w1 w2).mono ?_
      rintro e w1' ⟨sb, mb, rfl, s1, f1, n1⟩
      have S1 := hid s1
      have N1 := hid n1
      have F1 := hid f1
      clear s1 f1 n1
      go_wp2_with fail
      refine (peek_c _ b _ (HB.out.keep0 F1.out) HLB.out).mono ?_
      rintro e w2' hp
      rw [HO.out] at hp
      obtain ⟨rfl, f2⟩ := hp
      have S2 := hid (S1.out.keep0 f2)
      have F2 := hid (F0.and F1.out f2)
      clear f2 S1 F1
      go_wp2_with fail
      refine (in_some sb _ _ _ _ _ _ b 0 _ F S2.out HSO.out (HB.out.keep0 F2.out) HLB.out HO.out (by omega)).mono ?_
      rintro e w3 ⟨r3, us3, rv3, vs3, mb3, rfl, s3, b3, f3, n3, o3⟩
      obtain ⟨ra, rn, rc, rfl⟩ := b3.formS
      have S3 : Hid (SesN w w3 sb (inSt (fresh epoch wait) F).1) := hid ⟨_, _, _, _, s3, fun k hk => (o3 k hk).elim (N1.out k) (fun e => Nat.le_trans F2.out.size e)⟩
      have F3 : Hid (Fr F0 w w3) := hid (Fr.trans F2.out f3 (fun k hk e => by have := N1.out k e; omega))
      clear s3 b3 f3 n3 o3 S2 F2
      go_wp2_with (refine wpList_mkB rfl (.tmp 93) (.tmp 93) 25 rfl 5 Try.underlying25 infoB m rfl rfl (by omega) ?_)
      intro w4 o4 f4 z4
      have S4 := hid (S3.out.keep0 f4)
      have F4 := hid (F0.and F3.out f4)
      have O4 := hid o4
      clear o4 f4 z4 S3 F3
      go_wp2_with fail
      refine (send_big _ _ (List.replicate m 0) _ O4.out.rd (by simp; omega)).mono ?_
      rintro e w5 ⟨rfl, rfl⟩
      have F5 := F4
      clear S4 O4 F4
      go_wp2_with fail
      refine (ropen_c _ b _ (HB.out.keep0 F5.out) HLB.out).mono ?_
      rintro e w6 ⟨r6, rfl, h6, f6, _⟩
      obtain ⟨a6, n6, c6, rfl⟩ := rd_form h6
      have F6 := hid (F0.and F5.out f6)
      clear h6 f6 F5
      rw [HOP.out]
      go_wp2_with fail
      refine (in_nil _ b 0 _ (HB.out.keep0 F6.out) HLB.out).mono ?_
      rintro e w7 ⟨rfl, f7⟩
      rw [HO.out]
      dsimp only [Option.isSome]
      have F7 := hid (F0.and F6.out f7)
      clear f7 F6
      go_wp2_with fail
      refine (send_nil _ [] _ (Rd.nil _) (by simp)).mono ?_
      rintro e w8 ⟨rfl, rfl⟩
      go_wp2_with fail
      refine (out_nil 0 _).mono ?_
      rintro e w8 ⟨rfl, rfl⟩
      go_wp2_with fail
      refine (waiting_nil _).mono ?_
      rintro e w8 ⟨rfl, rfl⟩
      go_wp2_with fail
      refine (epoch_nil _).mono ?_
      rintro e w8 ⟨rfl, rfl⟩
      go_wp2_with fail
      refine (peer_nil _).mono ?_
      rintro e w8 ⟨rfl, rfl⟩
      go_wp2_with fail
      refine (awake20_c _).mono ?_
      rintro e w8 ⟨rfl, f8⟩
      have F8 := hid (F0.and F7.out f8)
      clear f8
      go_wp2_with fail
      go_ret
      exact ⟨rfl, F8.out⟩

set_option maxRecDepth 100000 in
set_option maxHeartbeats 1600000 in
theorem frames_c (v : Value) (b : List UInt8) (n epoch wait : Int) (w : World) (hb : Rd w v b) :
    Calls Try.prog 12 #[v, .int .i64 n, .int .i64 epoch, .int .i64 wait] w (Yes w) := by
  by_cases h1 : 300 < b.length
  · obtain ⟨a0, c0, rfl, _⟩ := hb.form
    obtain ⟨k, HK⟩ : ∃ k, Hid (b.length = k) := ⟨_, hid rfl⟩
    rw [HK.out] at hb h1 ⊢
    have h1' : 300 < (k : Int) := by omega
    clear hb h1
    go_enter Try.func12, Try.ntmps12
    go_wp2_with fail
    refine (awake20_c _).mono ?_
    rintro e w1 ⟨rfl, f1⟩
    go_wp2_with fail
    go_ret
    exact ⟨rfl, f1⟩
  · by_cases h2 : n < 0
    · obtain ⟨a0, c0, rfl, _⟩ := hb.form
      obtain ⟨k, HK⟩ : ∃ k, Hid (b.length = k) := ⟨_, hid rfl⟩
      rw [HK.out] at hb h1 ⊢
      have h1' : ¬ 300 < (k : Int) := by omega
      clear hb h1
      go_enter Try.func12, Try.ntmps12
      go_wp2_with fail
      refine (awake20_c _).mono ?_
      rintro e w1 ⟨rfl, f1⟩
      go_wp2_with fail
      go_ret
      exact ⟨rfl, f1⟩
    · by_cases h3 : 41000 < n
      · obtain ⟨a0, c0, rfl, _⟩ := hb.form
        obtain ⟨k, HK⟩ : ∃ k, Hid (b.length = k) := ⟨_, hid rfl⟩
        rw [HK.out] at hb h1 ⊢
        have h1' : ¬ 300 < (k : Int) := by omega
        clear hb h1
        go_enter Try.func12, Try.ntmps12
        go_wp2_with fail
        refine (awake20_c _).mono ?_
        rintro e w1 ⟨rfl, f1⟩
        go_wp2_with fail
        go_ret
        exact ⟨rfl, f1⟩
      · by_cases hk : 1 ≤ epoch ∧ epoch ≤ 2147483647 ∧ 1 ≤ wait ∧ wait ≤ 1000
        · exact frames_ok v b n epoch wait w hb (by omega) (by omega) (by omega) hk.1 hk.2.1 hk.2.2.1 hk.2.2.2
        · obtain ⟨a0, c0, rfl, _⟩ := hb.form
          obtain ⟨k, HK⟩ : ∃ k, Hid (b.length = k) := ⟨_, hid rfl⟩
          rw [HK.out] at hb h1 ⊢
          have h1' : ¬ 300 < (k : Int) := by omega
          clear hb h1
          by_cases e1 : 1 ≤ epoch
          · by_cases e2 : epoch ≤ 2147483647
            · by_cases e3 : 1 ≤ wait
              · have e4 : decide (wait ≤ 1000) = false := decide_eq_false fun e => hk ⟨e1, e2, e3, e⟩
                have HKK := hid hk
                clear hk
                go_enter Try.func12, Try.ntmps12
                go_wp2_with fail
                refine (new_no epoch wait _ HKK.out).mono ?_
                rintro e w0 ⟨rfl, rfl⟩
                go_wp2_with fail
                refine (awake20_c _).mono ?_
                rintro e w1 ⟨rfl, f1⟩
                go_wp2_with fail
                go_ret
                exact ⟨rfl, f1⟩
              · have HKK := hid hk
                clear hk
                go_enter Try.func12, Try.ntmps12
                go_wp2_with fail
                refine (new_no epoch wait _ HKK.out).mono ?_
                rintro e w0 ⟨rfl, rfl⟩
                go_wp2_with fail
                refine (awake20_c _).mono ?_
                rintro e w1 ⟨rfl, f1⟩
                go_wp2_with fail
                go_ret
                exact ⟨rfl, f1⟩
            · have HKK := hid hk
              clear hk
              go_enter Try.func12, Try.ntmps12
              go_wp2_with fail
              refine (new_no epoch wait _ HKK.out).mono ?_
              rintro e w0 ⟨rfl, rfl⟩
              go_wp2_with fail
              refine (awake20_c _).mono ?_
              rintro e w1 ⟨rfl, f1⟩
              go_wp2_with fail
              go_ret
              exact ⟨rfl, f1⟩
          · have HKK := hid hk
            clear hk
            go_enter Try.func12, Try.ntmps12
            go_wp2_with fail
            refine (new_no epoch wait _ HKK.out).mono ?_
            rintro e w0 ⟨rfl, rfl⟩
            go_wp2_with fail
            refine (awake20_c _).mono ?_
            rintro e w1 ⟨rfl, f1⟩
            go_wp2_with fail
            go_ret
            exact ⟨rfl, f1⟩

end Go.Proofs.Ytfalaopljodmnaa
