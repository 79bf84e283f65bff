/- linnetlaw20.SessionQuiet: the walk. -/
import Derived.Test.YtfalaopljodmnaaSesU
import Derived.Test.YtfalaopljodmnaaSesW
import Derived.Deep.DeepCutAuto
namespace Go.Proofs.Ytfalaopljodmnaa
open Go.RowKit Go.Maps

/-- On the way of the ticks. -/
def Q2 (w W : World) (sa sb n wt k : Nat) (l : Value) : Prop := ∃ (sf : Bool) (a : Nat), Two w W sa (qA n wt sf a) 0 sb (fresh 2 wt) 0 ∧ (k = 0 ∧ sf = false ∧ a = 0 ∨ 0 < k ∧ sf = true ∧ a = (k - 1) / wt * wt ∧ ∃ us, Bl W l us (qfr n wt))

/-- Behind the ticks. -/
def Q4 (w W : World) (sa sb n wt : Nat) (l : Value) : Prop := ∃ a : Nat, a ≤ 60 ∧ Two w W sa (qA n wt true a) 0 sb (fresh 2 wt) 0 ∧ ∃ us, Bl W l us (qfr n wt)

/-- On the way of the frames. -/
def Q5 (w W : World) (sb : Nat) (B : St) (NB sa : Nat) (A : St) (NA : Nat) (l : Value) (ls : List (List UInt8)) : Prop := Two w W sb B NB sa A NA ∧ ∃ us, Bl W l us ls

theorem q2_due {k wt : Nat} (hw : 1 ≤ wt) (h : k % wt = 0) (hk : 0 < k) : (wt : Int) ≤ (k : Int) - (((k - 1) / wt * wt : Nat) : Int) := by
  obtain ⟨q, rfl⟩ := Nat.dvd_of_mod_eq_zero h
  have hq : 0 < q := Nat.pos_of_mul_pos_left hk
  obtain ⟨p, rfl⟩ : ∃ p, q = p + 1 := ⟨q - 1, by omega⟩
  have : (wt * (p + 1) - 1) / wt = p := by
    rw [Nat.mul_succ]
    exact Nat.div_eq_of_lt_le (by rw [Nat.mul_comm]; omega) (by rw [Nat.succ_mul, Nat.mul_comm]; omega)
  rw [this, Nat.mul_comm p wt, Nat.mul_succ]
  omega

theorem q2_dueN {k wt : Nat} (h : k % wt = 0) : k = (k + 1 - 1) / wt * wt := by
  rw [Nat.add_sub_cancel]; exact (Nat.div_mul_cancel (Nat.dvd_of_mod_eq_zero h)).symm

theorem q2_not {k wt : Nat} (hw : 1 ≤ wt) (h : k % wt ≠ 0) : 0 < k ∧ (k - 1) / wt = (k + 1 - 1) / wt ∧ (k : Int) - (((k - 1) / wt * wt : Nat) : Int) < wt := by
  have hk : 0 < k := by
    rcases Nat.eq_zero_or_pos k with e | e
    · subst e; simp at h
    · exact e
  have hm := Nat.mod_lt k (show 0 < wt by omega)
  have hd := Nat.div_add_mod k wt
  have e : (k - 1) / wt = k / wt := by
    refine Nat.div_eq_of_lt_le ?_ ?_
    · rw [Nat.mul_comm]; omega
    · rw [Nat.mul_comm, Nat.mul_succ]; omega
  refine ⟨hk, by rw [Nat.add_sub_cancel]; exact e, ?_⟩
  rw [e, Nat.mul_comm]
  omega

theorem qbyte_rd (w : World) (k : Nat) (h : k < 256) : Rd (w.alloc (.cells #[.int .u8 (k : Int)] 5)) (.slice (some ⟨w.heap.size, 0, none⟩) 1 1) [UInt8.ofNat k] := by
  have := Rd.oneM w (UInt8.ofNat k) 5 (0, 0)
  rw [show (UInt8.ofNat k).toNat = k by simp; omega] at this
  exact this

/-- In the loop over frames. -/
def Q3 (w W : World) (sa sb n wt : Nat) (A : St) (r : Value) (ls : List (List UInt8)) (k : Nat) (l : Value) : Prop := Two w W sa A 0 sb (fresh 2 wt) 0 ∧ (∃ us, Bl W r us ls) ∧ (0 < k → ∃ us, Bl W l us (qfr n wt))

theorem Q3.keep0 {w W W' : World} {sa sb n wt : Nat} {A : St} {r : Value} {ls : List (List UInt8)} {k : Nat} {l : Value} (h : Q3 w W sa sb n wt A r ls k l) (f : Fr F0 W W') : Q3 w W' sa sb n wt A r ls k l :=
  ⟨h.1.keep0 f, let ⟨us, b⟩ := h.2.1; ⟨us, b.keep0 f⟩, fun hk => let ⟨us, b⟩ := h.2.2 hk; ⟨us, b.keep0 f⟩⟩

theorem qfr_get {n wt j : Nat} (h : j < n) : (qfr n wt)[j]? = some (frameB (fresh 2 wt) (1 + (j : Int)) [UInt8.ofNat j]) := by
  simp [qfr, h]

set_option maxRecDepth 100000 in
set_option maxHeartbeats 6400000 in
theorem quiet_ok (n wt tk : Nat) (w : World) (h1 : 1 ≤ n) (h8 : n ≤ 8) (w1 : 1 ≤ wt) (w2 : wt ≤ 20) (t2 : tk ≤ 60) :
    Calls Try.prog 13 #[.int .i64 n, .int .i64 wt, .int .i64 tk] w (Yes w) := by
  have g1 : ¬ (n : Int) < 1 := by omega
  have g2 : ¬ 8 < (n : Int) := by omega
  have g3 : ¬ (wt : Int) < 1 := by omega
  have g4 : ¬ 20 < (wt : Int) := by omega
  have g5 : ¬ (tk : Int) < 0 := by omega
  have g6 : ¬ 60 < (tk : Int) := by omega
  go_enter Try.func13, Try.ntmps13
  go_wp2_with fail
  refine (new_c 2 wt _ (by omega) (by omega) (by omega) (by omega)).mono ?_
  rintro e w1' ⟨sa, ma, rfl, s1, f1, n1⟩
  have S1 := hid (And.intro s1 (And.intro f1 n1))
  clear s1 f1 n1
  go_wp2_with fail
  refine (new_c 2 wt _ (by omega) (by omega) (by omega) (by omega)).mono ?_
  rintro e w2' ⟨sb, mb, rfl, s2, f2, n2⟩
  have T : Hid (Two w w2' sa (qA 0 wt false 0) 0 sb (fresh 2 wt) 0) := hid (Two.made S1.out.1 S1.out.2.2 S1.out.2.1 s2 f2 n2)
  clear s2 f2 n2 S1
  go_wp2_with fail
  go_loopg [11] n (fun gh i wr => ∃ k : Nat, k + gh = n ∧ i = .int .i64 k ∧ Hid (Two w wr sa (qA k wt false 0) 0 sb (fresh 2 wt) 0))
  case atStart => exact ⟨0, by omega, rfl, T⟩
  case round =>
    clear T
    obtain ⟨k, hkg, rfl, T⟩ := hrel
    by_cases hlt : k < n
    · have hki : (k : Int) < (n : Int) := by omega
      have HKG := hid hkg
      have wu : IntKind.u8.wrap (k : Int) = (k : Int) := by simp [IntKind.wrap_u8]; omega
      clear hkg
      go_wp2_with fail
      refine (two_send _ [UInt8.ofNat k] (T.out.keep0 ((Fr.refl _ _).alloc _)) (qbyte_rd wr k (by omega)) (by simp) (by simp [qA, qmsgs_len]; omega)).mono ?_
      rintro e w4 ⟨rfl, t4, _⟩
      have T4 : Hid (Two w w4 sa (qA (k + 1) wt false 0) 0 sb (fresh 2 wt) 0) := hid (by rw [← qsend]; exact t4)
      clear t4
      go_wp2_with fail
      go_roundg (gk - 1)
      case measure => have := HKG.out; omega
      case rel => exact ⟨k + 1, by have := HKG.out; omega, by go_num, T4⟩
    · have hkn : n = k := by omega
      subst hkn
      clear hkg hlt
      go_wp2_with fail
      have Q0 : Hid (Q2 w wr sa sb n wt 0 (.slice none 0 0)) := hid ⟨false, 0, T.out, .inl ⟨rfl, rfl, rfl⟩⟩
      clear T
      go_loopg [12, 13, 14] tk (fun gh s l t wr => ∃ k : Nat, k + gh = tk ∧ t = .int .i64 k ∧ (∃ sv : Int, s = .int .i64 sv ∧ 0 ≤ sv ∧ sv ≤ 8 * k) ∧ (∃ la ln lc, l = .slice la ln lc) ∧ Hid (Q2 w wr sa sb n wt k l))
      case atStart => exact ⟨0, by omega, rfl, ⟨0, rfl, by omega, by omega⟩, ⟨_, _, _, rfl⟩, Q0⟩
      case round =>
        clear Q0
        obtain ⟨k, hkg, rfl, ⟨sv, rfl, sv0, sv1⟩, ⟨la, ln, lc, rfl⟩, Q⟩ := hrel
        by_cases hlt : k < tk
        · have hki : (k : Int) < (tk : Int) := by omega
          have HKG := hid hkg
          have HWT := hid w1
          clear hkg
          obtain ⟨sf, a, tq, hq⟩ := Q.out
          have HA : Hid (SOk (qA n wt sf a)) := hid (qA_ok (by omega) (by omega) (by omega) (by
            rcases hq with ⟨_, _, e⟩ | ⟨_, _, e, _⟩
            · omega
            · have := Nat.div_mul_le_self (k - 1) wt; omega))
          have HQ := hid hq
          have T := hid tq
          clear tq hq Q
          by_cases hd : k % wt = 0
          · have hb : ((k : Int) % (wt : Int) == 0) = true := by
              have : (k : Int) % (wt : Int) = ((k % wt : Nat) : Int) := by omega
              rw [this, hd]; rfl
            have HO : Hid (outSt (qA n wt sf a) k = (qA n wt true k, qfr n wt)) := hid (qout_due n wt sf a k h1 h8 (by
              rcases HQ.out with ⟨_, e, _⟩ | ⟨e1, _, e2, _⟩
              · exact .inl e
              · right; rw [e2]; exact q2_due HWT.out hd e1))
            have HN1 : Hid (k = (k + 1 - 1) / wt * wt) := hid (q2_dueN hd)
            clear hd
            go_wp2_with fail
            refine (two_out k T.out HA.out (by omega)).mono ?_
            rintro e w5 ⟨r5, us5, rfl, b5, n5, t5, k5⟩
            rw [HO.out] at b5 t5
            dsimp only at b5 t5
            obtain ⟨ra, rc, rfl⟩ := b5.form
            have B5 := b5
            rw [qfr_len] at b5 ⊢
            have HQ3 : Hid (Q3 w w5 sa sb n wt (qA n wt true k) (.slice ra n rc) (qfr n wt) k (.slice la ln lc)) := hid ⟨t5, ⟨us5, b5⟩, fun hk => by
              rcases HQ.out with ⟨e, _⟩ | ⟨_, _, _, us, b⟩
              · omega
              · exact ⟨us, b.kept k5⟩⟩
            clear b5 n5 t5 k5 B5 T HQ HA HO
            go_wp2_with fail
            go_loopg [16, 17] n (fun gh c i wq => ∃ j : Nat, j + gh = n ∧ c = .int .i64 j ∧ i = .int .i64 j ∧ Hid (Q3 w wq sa sb n wt (qA n wt true k) (.slice ra n rc) (qfr n wt) k (.slice la ln lc)))
            case atStart => exact ⟨0, by omega, rfl, rfl, HQ3⟩
            case round =>
              clear HQ3
              obtain ⟨j, hjg, rfl, rfl, HQ3⟩ := hrel
              by_cases hj : j < n
              · have hji : (j : Int) < (n : Int) := by omega
                have HJG := hid hjg
                clear hjg hb
                obtain ⟨us, bl⟩ := HQ3.out.2.1
                obtain ⟨gb, go, gc, gu, ge, _, _, gcell, grt⟩ := bl.get j _ (qfr_get hj)
                injection ge with ge ge2 ge3
                clear ge2
                subst ge ge3
                obtain ⟨gua, guc, rfl⟩ := grt.form
                have HGR := hid grt
                clear bl grt
                go_wp2_with fail
                refine (peek_c _ _ _ HGR.out.1 (in_len _ _ _ (by simp))).mono ?_
                rintro e w6 hp
                rw [q_rd wt (by omega) (by omega) j (by omega)] at hp
                obtain ⟨rfl, f6⟩ := hp
                dsimp only [qF]
                have HQ3 := hid (HQ3.out.keep0 f6)
                clear f6 gcell
                go_wp2_with fail
                go_roundg (gk - 1)
                case measure => have := HJG.out; omega
                case rel => exact ⟨j + 1, by have := HJG.out; omega, by go_num, by go_num, HQ3⟩
              · have hjn : n = j := by omega
                subst hjn
                have hn0 : 0 < (n : Int) := by omega
                clear hjg hj
                go_wp2_with fail
                go_roundg (tk - (k + 1))
                case measure => have := HKG.out; omega
                case rel =>
                  obtain ⟨q1, ⟨us, q2⟩, _⟩ := HQ3.out
                  exact ⟨k + 1, by have := HKG.out; omega, by go_num, ⟨sv + n, rfl, by omega, by omega⟩, ⟨_, _, _, rfl⟩, hid ⟨true, k, q1, .inr ⟨by omega, rfl, HN1.out, us, q2⟩⟩⟩
          · obtain ⟨hk0, hk1, hk2⟩ := q2_not HWT.out hd
            have hb : ((k : Int) % (wt : Int) == 0) = false := by
              have : (k : Int) % (wt : Int) = ((k % wt : Nat) : Int) := by omega
              rw [this]; simp; omega
            obtain ⟨sf', a', hsf⟩ : ∃ (sf' : Bool) (a' : Nat), Hid (sf = sf' ∧ a = a') := ⟨_, _, hid ⟨rfl, rfl⟩⟩
            have hq4 : sf = true ∧ a = (k - 1) / wt * wt ∧ ∃ us, Bl wr (.slice la ln lc) us (qfr n wt) := by
              rcases HQ.out with ⟨e, _⟩ | ⟨_, e1, e2, e3⟩
              · omega
              · exact ⟨e1, e2, e3⟩
            obtain ⟨rfl, ea, usl, bll⟩ := hq4
            have HEA := hid ea
            have HBL := hid bll
            have HO : Hid (outSt (qA n wt true a) k = (qA n wt true a, [])) := hid (qout_not n wt a k h8 (by rw [ea]; exact hk2))
            have HN1 : Hid (a = (k + 1 - 1) / wt * wt) := hid (by rw [ea, hk1])
            clear hd ea bll hk0 hk1 hk2 hsf
            go_wp2_with fail
            refine (two_out k T.out HA.out (by omega)).mono ?_
            rintro e w5 ⟨r5, us5, rfl, b5, n5, t5, k5⟩
            rw [HO.out] at b5 t5
            dsimp only at b5 t5
            obtain ⟨ra, rc, rfl⟩ := b5.form
            have HBL := hid (HBL.out.kept k5)
            have T5 := hid t5
            clear b5 n5 t5 k5 T HQ HA HO
            dsimp only [List.length]
            go_wp2_with fail
            go_loopg [16, 17] 0 (fun gh c i wq => wq = w5 ∧ c = .int .i64 0 ∧ i = .int .i64 0)
            case atStart => exact ⟨rfl, rfl, rfl⟩
            case round =>
              obtain ⟨rfl, rfl, rfl⟩ := hrel
              go_wp2_with fail
              go_roundg (tk - (k + 1))
              case measure => have := HKG.out; omega
              case rel => exact ⟨k + 1, by have := HKG.out; omega, by go_num, ⟨sv, by simp, by omega, by omega⟩, ⟨_, _, _, rfl⟩, hid ⟨true, a, T5.out, .inr ⟨by omega, rfl, HN1.out, usl, HBL.out⟩⟩⟩
        · have hkt : tk = k := by omega
          subst hkt
          clear hkg hlt sv0 sv1
          go_upto_if 143 with fail
          go_cut [13] (fun l wx => (∃ la lc, l = .slice la n lc) ∧ Hid (Q4 w wx sa sb n wt l))
          case first =>
            obtain ⟨sf, a, tq, hq⟩ := Q.out
            by_cases h0 : tk = 0
            · have hb0 : ((tk : Int) == 0) = true := by simp [h0]
              have hsf : sf = false ∧ a = 0 := by
                rcases hq with ⟨_, e⟩ | ⟨e, _⟩
                · exact e
                · omega
              obtain ⟨rfl, rfl⟩ := hsf
              have T := hid tq
              clear hq tq h0 Q
              go_wp2_with fail
              refine (two_out 0 T.out (qA_ok (by omega) (by omega) (by omega) (by omega)) (by omega)).mono ?_
              rintro e w5 ⟨r5, us5, rfl, b5, n5, t5, k5⟩
              rw [qout_due n wt false _ 0 h1 h8 (.inl rfl)] at b5 t5
              dsimp only at b5 t5
              obtain ⟨ra, rc, rfl⟩ := b5.form
              have B5 := hid b5
              have T5 := hid t5
              rw [qfr_len] at B5 ⊢
              clear b5 n5 t5 k5 T
              go_wp2_with fail
              go_meet
              case rel => exact ⟨⟨_, _, rfl⟩, hid ⟨0, by omega, T5.out, _, B5.out⟩⟩
            · have hb0 : ((tk : Int) == 0) = false := by simp; omega
              have hsf : sf = true ∧ a = (tk - 1) / wt * wt ∧ ∃ us, Bl wr (.slice la ln lc) us (qfr n wt) := by
                rcases hq with ⟨e, _⟩ | ⟨_, e1, e2, e3⟩
                · exact absurd e h0
                · exact ⟨e1, e2, e3⟩
              obtain ⟨rfl, ea, usl, bll⟩ := hsf
              have hln : ln = n := by obtain ⟨_, _, e⟩ := bll.form; injection e with _ e _; rw [qfr_len] at e; exact e
              subst hln
              have HX : Hid (Q4 w wr sa sb ln wt (.slice la ln lc)) := hid ⟨a, by have := Nat.div_mul_le_self (tk - 1) wt; omega, tq, usl, bll⟩
              clear hq tq h0 Q ea bll
              go_wp2_with fail
              go_meet
              case rel => exact ⟨⟨_, _, rfl⟩, HX⟩
          case rest =>
          obtain ⟨⟨la2, lc2, rfl⟩, HX⟩ := hcut
          clear Q
          obtain ⟨a, ha, tq, usl, bll⟩ := HX.out
          have T := hid tq
          have BL := hid bll
          clear tq bll HX
          go_wp2_with fail
          go_loopg [24, 25] n (fun gh c i wq => ∃ j : Nat, j + gh = n ∧ c = .int .i64 j ∧ i = .int .i64 j ∧ Hid (Q5 w wq sb (qB wt j) j sa (qA n wt true a) 0 (.slice la2 n lc2) (qfr n wt)))
          case atStart => exact ⟨0, by omega, rfl, rfl, hid ⟨T.out.swap, _, BL.out⟩⟩
          case round =>
            clear T BL
            obtain ⟨j, hjg, rfl, rfl, HQ⟩ := hrel
            by_cases hj : j < n
            · have hji : (j : Int) < (n : Int) := by omega
              have HJG := hid hjg
              clear hjg
              obtain ⟨q1, us, bl⟩ := HQ.out
              obtain ⟨gb, go, gc, gu, ge, _, _, gcell, grt⟩ := bl.get j _ (qfr_get hj)
              injection ge with ge ge2 ge3
              clear ge2
              subst ge ge3
              obtain ⟨gua, guc, rfl⟩ := grt.form
              have HGR := hid grt
              have HT := hid q1
              have HB := hid bl
              clear bl grt q1 HQ
              go_wp2_with fail
              refine (two_in _ _ (qF j) tk HT.out (qB_ok (by omega) (by omega) (by omega)) HGR.out.1 (in_len _ _ _ (by simp)) (q_rd wt (by omega) (by omega) j (by omega)) (by omega)).mono ?_
              rintro e w6 ⟨r6, us6, rfl, b6, n6, t6, k6⟩
              rw [qin] at b6 t6
              dsimp only at b6 t6
              obtain ⟨xa, xc, rfl⟩ := b6.form
              dsimp only [List.length]
              have HQ5 : Hid (Q5 w w6 sb (qB wt (j + 1)) (j + 1) sa (qA n wt true a) 0 (.slice (some ⟨gb, go, none⟩) n lc2) (qfr n wt)) := hid ⟨t6, _, HB.out.kept k6⟩
              clear b6 n6 t6 k6 gcell HT HB
              go_wp2_with fail
              go_roundg (gk - 1)
              case measure => have := HJG.out; omega
              case rel => exact ⟨j + 1, by have := HJG.out; omega, by go_num, by go_num, HQ5⟩
            · have hjn : n = j := by omega
              subst hjn
              clear hjg hj
              have HT := hid HQ.out.1
              clear HQ
              go_wp2_with fail
              refine (two_out tk HT.out (qB_ok (by omega) (by omega) (by omega)) (by omega)).mono ?_
              rintro e w5 ⟨r5, us5, rfl, b5, n5, t5, k5⟩
              rw [qback wt n h1] at b5 t5
              dsimp only at b5 t5
              obtain ⟨fb, fo, fc, fua, fuc, rfl, rfl, frt⟩ := b5.one
              have HT := hid t5.swap
              have HB := hid b5
              clear b5 n5 t5 k5 frt
              go_wp2_with fail
              go_loopg [29] 1 (fun gh i wq => (gh = 1 ∧ i = .int .i64 0 ∧ Hid (Two w wq sa (qA n wt true a) 0 sb { qB wt n with tell := false } n ∧ Bl wq (.slice (some ⟨fb, fo, none⟩) 1 fc) [.slice fua (frameB (qB wt n) 0 []).length fuc] [frameB (qB wt n) 0 []])) ∨ (gh = 0 ∧ i = .int .i64 1 ∧ Hid (Two w wq sa (qE n wt true) 1 sb { qB wt n with tell := false } n)))
              case atStart => exact .inl ⟨rfl, rfl, hid ⟨HT.out, HB.out⟩⟩
              case round =>
                clear HT HB
                rcases hrel with ⟨rfl, rfl, HT⟩ | ⟨rfl, rfl, HT⟩
                · have c0 := HT.out.2.cell0
                  go_wp2_with fail
                  refine (two_in _ _ (qG n) tk HT.out.1 (qA_ok (by omega) (by omega) (by omega) (by omega)) HT.out.2.rt0.1 (in_len _ _ _ (by simp)) (q_rd2 wt (by omega) (by omega) n h1 (by omega)) (by omega)).mono ?_
                  rintro e w6 ⟨r6, us6, rfl, b6, n6, t6, k6⟩
                  rw [qacked n wt a h1] at b6 t6
                  dsimp only at b6 t6
                  obtain ⟨xa, xc, rfl⟩ := b6.form
                  have HT := hid t6
                  clear b6 n6 t6 k6 c0
                  go_wp2_with fail
                  go_roundg 0
                  case measure => omega
                  case rel => exact .inr ⟨rfl, rfl, HT⟩
                · go_wp2_with fail
                  refine (two_waiting HT.out).mono ?_
                  rintro e w7 ⟨rfl, rfl⟩
                  dsimp only [qE, List.length]
                  go_wp2_with fail
                  go_loopg [32] (3 * wt) (fun gh t wq => ∃ k : Nat, k + gh = 3 * wt ∧ t = .int .i64 ((tk : Int) + (k : Int)) ∧ Hid (∃ b, Two w wq sa (qE n wt b) 1 sb { qB wt n with tell := false } n))
                  case atStart => exact ⟨0, by omega, by simp, hid ⟨true, HT.out⟩⟩
                  case round =>
                    clear HT
                    obtain ⟨k, hkg, rfl, HT⟩ := hrel
                    have HKG := hid hkg
                    by_cases hk : k < 3 * wt
                    · have hki : (tk : Int) + (k : Int) < (tk : Int) + 3 * (wt : Int) := by omega
                      obtain ⟨b, ht⟩ := HT.out
                      have HT0 := hid ht
                      clear ht hkg HT
                      go_wp2_with fail
                      refine (two_out ((tk : Int) + (k : Int)) HT0.out (qE_ok (by omega) (by omega) (by omega)) (by omega)).mono ?_
                      rintro e w7 ⟨r7, us7, rfl, b7, n7, t7, k7⟩
                      rw [qquiet] at b7 t7
                      dsimp only at b7 t7
                      have HT := hid t7
                      clear t7 k7 n7 HT0
                      cases b with
                      | true =>
                        simp only [if_true] at b7
                        obtain ⟨fb, fo, fc, fua, fuc, rfl, rfl, frt⟩ := b7.one
                        have HB := hid b7
                        clear b7 frt
                        go_wp2_with fail
                        go_loopg [34] 1 (fun gh i wz => (gh = 1 ∧ i = .int .i64 0 ∧ Hid (Two w wz sa (qE n wt false) 1 sb { qB wt n with tell := false } n ∧ Bl wz (.slice (some ⟨fb, fo, none⟩) 1 fc) [.slice fua (frameB (qE n wt true) 0 []).length fuc] [frameB (qE n wt true) 0 []])) ∨ (gh = 0 ∧ i = .int .i64 1 ∧ Hid (Two w wz sa (qE n wt false) 1 sb { qB wt n with tell := false } n)))
                        case atStart => exact .inl ⟨rfl, rfl, hid ⟨HT.out, HB.out⟩⟩
                        case round =>
                          clear HT HB
                          rcases hrel with ⟨rfl, rfl, HT⟩ | ⟨rfl, rfl, HT⟩
                          · have c0 := HT.out.2.cell0
                            go_wp2_with fail
                            refine (peek_c _ _ _ HT.out.2.rt0.1 (in_len _ _ _ (by simp))).mono ?_
                            rintro e w8 hp
                            rw [q_rd3 wt (by omega) (by omega) n (by omega)] at hp
                            obtain ⟨rfl, f8⟩ := hp
                            dsimp only [qH]
                            have HT := hid (HT.out.1.keep0 f8)
                            clear f8 c0
                            go_wp2_with fail
                            go_roundg 0
                            case measure => omega
                            case rel => exact .inr ⟨rfl, rfl, HT⟩
                          · go_wp2_with fail
                            go_roundg (3 * wt - (k + 1))
                            case measure => have := HKG.out; omega
                            case rel => exact ⟨k + 1, by have := HKG.out; omega, by go_num, hid ⟨false, HT.out⟩⟩
                      | false =>
                        simp only [Bool.false_eq_true, if_false] at b7
                        obtain ⟨xa, xc, rfl⟩ := b7.form
                        clear b7
                        dsimp only [List.length]
                        go_wp2_with fail
                        go_loopg [34] 0 (fun gh i wz => wz = w7 ∧ i = .int .i64 0)
                        case atStart => exact ⟨rfl, rfl⟩
                        case round =>
                          obtain ⟨rfl, rfl⟩ := hrel
                          go_wp2_with fail
                          go_roundg (3 * wt - (k + 1))
                          case measure => have := HKG.out; omega
                          case rel => exact ⟨k + 1, by have := HKG.out; omega, by go_num, hid ⟨false, HT.out⟩⟩
                    · have hkk : k = 3 * wt := by omega
                      have hki : ¬ (tk : Int) + (k : Int) < (tk : Int) + 3 * (wt : Int) := by omega
                      obtain ⟨b, ht⟩ := HT.out
                      have HF : Hid (Fr F0 w wr) := hid (let ⟨_, _, _, _, _, _, _, _, _, _, _, f⟩ := ht; f)
                      clear ht HT hkk
                      go_wp2_with fail
                      refine (awake20_c _).mono ?_
                      rintro e w9 ⟨rfl, f9⟩
                      have HF := hid (F0.and HF.out f9)
                      clear f9
                      go_wp2_with fail
                      go_ret
                      exact ⟨rfl, HF.out⟩

theorem qcase {P : Prop} (n wt tk : Int) (h1 : n < 1 → P) (h2 : 1 ≤ n → 8 < n → P) (h3 : 1 ≤ n → n ≤ 8 → wt < 1 → P) (h4 : 1 ≤ n → n ≤ 8 → 1 ≤ wt → 20 < wt → P) (h5 : 1 ≤ n → n ≤ 8 → 1 ≤ wt → wt ≤ 20 → tk < 0 → P)
    (h6 : 1 ≤ n → n ≤ 8 → 1 ≤ wt → wt ≤ 20 → 0 ≤ tk → 60 < tk → P) (h7 : 1 ≤ n → n ≤ 8 → 1 ≤ wt → wt ≤ 20 → 0 ≤ tk → tk ≤ 60 → P) : P := by
  by_cases a1 : n < 1
  · exact h1 a1
  · by_cases a2 : 8 < n
    · exact h2 (by omega) a2
    · by_cases a3 : wt < 1
      · exact h3 (by omega) (by omega) a3
      · by_cases a4 : 20 < wt
        · exact h4 (by omega) (by omega) (by omega) a4
        · by_cases a5 : tk < 0
          · exact h5 (by omega) (by omega) (by omega) (by omega) a5
          · by_cases a6 : 60 < tk
            · exact h6 (by omega) (by omega) (by omega) (by omega) (by omega) a6
            · exact h7 (by omega) (by omega) (by omega) (by omega) (by omega) (by omega)

set_option maxRecDepth 100000 in
set_option maxHeartbeats 1600000 in
theorem quiet_c (n wt tk : Int) (w : World) : Calls Try.prog 13 #[.int .i64 n, .int .i64 wt, .int .i64 tk] w (Yes w) := by
  refine qcase n wt tk ?_ ?_ ?_ ?_ ?_ ?_ (fun a b c d e f => ?_)
  case refine_7 =>
    obtain ⟨n, rfl⟩ : ∃ m : Nat, n = m := ⟨n.toNat, by omega⟩
    obtain ⟨wt, rfl⟩ : ∃ m : Nat, wt = m := ⟨wt.toNat, by omega⟩
    obtain ⟨tk, rfl⟩ : ∃ m : Nat, tk = m := ⟨tk.toNat, by omega⟩
    exact quiet_ok n wt tk w (by omega) (by omega) (by omega) (by omega) (by omega)
  all_goals
    intros
    go_enter Try.func13, Try.ntmps13
    go_wp2_with fail
    refine (awake20_c _).mono ?_
    rintro e w1 ⟨rfl, f1⟩
    go_wp2_with fail
    go_ret
    exact ⟨rfl, f1⟩

end Go.Proofs.Ytfalaopljodmnaa
