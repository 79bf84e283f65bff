/- linnetlaw20.SessionEpochs: the walk. -/
import Derived.Test.YtfalaopljodmnaaSesR
import Derived.Test.YtfalaopljodmnaaEpP
import Derived.Test.YtfalaopljodmnaaSesU
import Derived.Deep.DeepCutAuto
namespace Go.Proofs.Ytfalaopljodmnaa
open Go.RowKit Go.Maps

/-- The first life, with k messages. -/
def EZ (k : Nat) : St := ⟨3, 1, 1, ems 1 0 k, 0, 0, [], false⟩

theorem EZ_ok {k : Nat} (h : k ≤ 100) : SOk (EZ k) := by
  refine ⟨by simp [EZ], by simp [EZ], ?_, ?_, by simp [EZ], by simp [EZ], ?_, by simp [EZ]⟩
  · simp only [EZ, ems_len]; omega
  · simp only [EZ, ems_len]; omega
  · intro m hm
    have key : ∀ (k p : Nat) (m : Msg), m ∈ ems 1 p k → m.b.length ≤ 40000 ∧ m.at_ = 0 := by
      intro k
      induction k with
      | zero => intro p m hm; simp [ems] at hm
      | succ k ih =>
        intro p m hm
        simp only [ems, List.mem_cons] at hm
        rcases hm with rfl | hm
        · exact ⟨by simp [em], rfl⟩
        · exact ih (p + 1) m hm
    have := key k 0 m hm
    omega

theorem emf_get (X : St) (c : UInt8) : ∀ (k p j : Nat) (q : Int) (F : Flds), (emf X c q p k)[j]? = some F → F.epoch = X.epoch.toNat
  | 0, _, _, _, _, h => by simp [emf] at h
  | k + 1, p, 0, q, F, h => by simp [emf] at h; rw [← h]; rfl
  | k + 1, p, j + 1, q, F, h => emf_get X c k (p + 1) j (q + 1) F (by simpa [emf] using h)

/-- The elder life's frames. -/
def OldF (n : Nat) (os : List (List UInt8)) : Prop := os.length = min n 8 ∧ (0 < n → ∃ x F, os[0]? = some x ∧ rdF x = some F ∧ F = ⟨3, 0, 1, 0, [1, 0]⟩ ∧ x.length ≤ 35184372088832) ∧ ∀ (j : Nat) x, os[j]? = some x → ∃ F, rdF x = some F ∧ F.epoch = 3 ∧ FOk F ∧ x.length ≤ 35184372088832

theorem out_xlen {S : St} (h : SOk S) (now : Int) (x : List UInt8) (hx : x ∈ (outSt S now).2) : x.length ≤ 35184372088832 := by
  have key : ∀ (l : List Msg) (q : Int), (∀ m ∈ l, m.b.length ≤ 40000) → ∀ x ∈ frs S now q l, x.length ≤ 35184372088832 := by
    intro l
    induction l with
    | nil => intro q _ x hx; simp [frs] at hx
    | cons m r ih =>
      intro q hm x hx
      unfold frs at hx
      split at hx
      · simp only [List.mem_cons] at hx
        rcases hx with rfl | hx
        · exact in_len _ _ _ (hm m (by simp))
        · exact ih _ (fun m' h => hm m' (by simp [h])) x hx
      · exact ih _ (fun m' h => hm m' (by simp [h])) x hx
  unfold outSt at hx
  dsimp only at hx
  split at hx
  · simp only [List.mem_singleton] at hx; subst hx; exact in_len _ _ _ (by simp)
  · exact key _ _ (fun m hm => (h.msg m (List.mem_of_mem_take hm)).1) x hx

theorem oldF (n : Nat) (h : n ≤ 20) : OldF n (outSt (EZ n) 0).2 := by
  obtain ⟨r, k, hk, hr, hpos, hmin⟩ := split8 n
  have hok : SOk (EZ n) := EZ_ok (by omega)
  have ho := (out_ems (EZ n) 0 1 0 r k (by simp only [EZ]; rw [hk]) hr).2
  rw [if_neg (by simp [EZ])] at ho
  have hl : (outFl (EZ n) 0).length = r := by
    rw [ho]
    have : ∀ (k p : Nat) (q : Int), (emf (EZ n) 1 q p k).length = k := by
      intro k
      induction k with
      | zero => intro p q; rfl
      | succ k ih => intro p q; simp [emf, ih]
    exact this _ _ _
  have hlen : (outSt (EZ n) 0).2.length = r := by rw [← out_len hok, hl]
  refine ⟨by rw [hlen, hmin], fun hn => ?_, fun j x hx => ?_⟩
  · have hr0 := hpos hn
    obtain ⟨x, hx⟩ : ∃ x, (outSt (EZ n) 0).2[0]? = some x := ⟨_, List.getElem?_eq_getElem (by omega)⟩
    obtain ⟨F, h1, h2, _⟩ := out_rd_get hok 0 hx
    obtain ⟨r, rfl⟩ : ∃ r', r = r' + 1 := ⟨r - 1, by omega⟩
    rw [ho] at h1
    simp only [emf, List.getElem?_cons_zero, Option.some.injEq] at h1
    exact ⟨x, F, hx, h2, by rw [← h1]; rfl, out_xlen hok 0 x (List.mem_of_getElem? hx)⟩
  · obtain ⟨F, h1, h2, h3⟩ := out_rd_get hok 0 hx
    rw [ho] at h1
    exact ⟨F, h2, emf_get _ _ _ _ _ _ _ h1, h3, out_xlen hok 0 x (List.mem_of_getElem? hx)⟩

/-- Behind the elder life's first frame. -/
def P6 (w W : World) (sa : Nat) (A : St) (sb : Nat) (o : Value) (os : List (List UInt8)) : Prop := ∃ (pe hv : Int) (tl : Bool) (NB : Nat), (0 ≤ pe ∧ pe < 4) ∧ (0 ≤ hv ∧ hv ≤ 1) ∧ NB ≤ 1 ∧ Two w W sa A 0 sb (F0b 0 pe hv tl) NB ∧ Bx W o os

theorem runStr (w : World) (v : Value) (l : List UInt8) (h : Rd w v l) : (convert 25 9 v).run Try.prog w = .ok (.string ⟨l.toArray⟩) w :=
  run_strB w 25 9 5 Try.underlying25 Try.underlying5 str_ty v l h

theorem ems_mem (c : UInt8) : ∀ (k p : Nat) (m : Msg), m ∈ ems c p k → m.b.length ≤ 40000 ∧ m.at_ = 0
  | 0, p, m, hm => by simp [ems] at hm
  | k + 1, p, m, hm => by
    simp only [ems, List.mem_cons] at hm
    rcases hm with rfl | hm
    · exact ⟨by simp [em], rfl⟩
    · exact ems_mem c k (p + 1) m hm

theorem E0_ok {m : Nat} (h : m ≤ 20) : SOk (E0 m) := by
  refine ⟨by simp [E0], by simp [E0], ?_, ?_, by simp [E0], by simp [E0], ?_, by simp [E0]⟩
  · simp only [E0, ems_len]; omega
  · simp only [E0, ems_len]; omega
  · intro x hx; have := ems_mem _ _ _ x hx; omega

theorem F0b_ok {m : Nat} {pe hv : Int} {tl : Bool} (h : m ≤ 20) (h1 : 0 ≤ pe ∧ pe < 4) (h2 : 0 ≤ hv ∧ hv ≤ 1) : SOk (F0b m pe hv tl) := by
  refine ⟨by simp [F0b], by simp [F0b], ?_, ?_, by simp [F0b]; omega, by simp [F0b]; omega, ?_, by simp [F0b]⟩
  · simp only [F0b, ems_len]; omega
  · simp only [F0b, ems_len]; omega
  · intro x hx; have := ems_mem _ _ _ x hx; omega

/-- At the head of a tick. -/
def EW (w W : World) (sa sb m nw : Nat) (o : Value) (os : List (List UInt8)) (x y : Value) : Prop :=
  ∃ (A B : St) (NA NB : Nat) (xs ys : List (List UInt8)), Two w W sa A NA sb B NB ∧ NA ≤ 100 * nw ∧ NB ≤ 100 * nw ∧ LS W x y o (.slice none 0 0) xs ys os [] ∧ SOk A ∧ SOk B ∧ xs.length ≤ 100000 * nw ∧ ys.length ≤ 100000 * nw ∧ (0 < m → EX m nw A B xs ys) ∧ New w x ∧ New w y

theorem EW.start {w W : World} {sa sb m : Nat} {pe hv : Int} {tl : Bool} {NB : Nat} {o : Value} {os : List (List UInt8)} (h : Two w W sa (E0 m) 0 sb (F0b m pe hv tl) NB) (b : Bx W o os) (hm : m ≤ 20) (h1 : 0 ≤ pe ∧ pe < 4) (h2 : 0 ≤ hv ∧ hv ≤ 1) (h3 : NB ≤ 1) :
    EW w W sa sb m 1 o os (.slice none 0 0) (.slice none 0 0) :=
  ⟨E0 m, F0b m pe hv tl, 0, NB, [], [], h, by omega, by omega, ⟨⟨[], Bl.nil W⟩, ⟨[], Bl.nil W⟩, b, ⟨[], Bl.nil W⟩, Apart.nil _ _ _, (Apart.nil _ _ _).symm, Apart.nil _ _ _, (Apart.nil _ _ _).symm, Apart.nil _ _ _⟩, E0_ok hm, F0b_ok hm h1 h2, by simp, by simp, fun _ => .inl ⟨rfl, rfl, ⟨pe, hv, tl, h1.2, rfl⟩, rfl, rfl⟩, New.nil _ _ _, New.nil _ _ _⟩

theorem Two.row {w0 W W' : World} {sa : Nat} {A : St} {NA sb : Nat} {B : St} {N_B : Nat} {y : Value} {ys : List (List UInt8)} (h : Two w0 W sa A NA sb B N_B) (b : Bx W y ys) (n : New w0 y) (f : Fr (fun q => y.ownBlock = some q) W W') : Two w0 W' sa A NA sb B N_B := by
  obtain ⟨rva, vsa, mba, rvb, vsb, mbb, h1, h2, h3, h4, h5, h6⟩ := h
  obtain ⟨us, bl⟩ := b
  exact ⟨rva, vsa, mba, rvb, vsb, mbb, h1.keep f (fun k hk e => h1.notBl bl k e hk) bl.nb, h2.keep f (fun k hk e => h2.notBl bl k e hk) bl.nb, h3, h4, h5, Fr.trans h6 f (fun k hk e => by have := n k e; omega)⟩

/-- On the way of a side's frames: j are in. -/
def FW (w W : World) (sb : Nat) (B : St) (NB sa : Nat) (A : St) (NA : Nat) (Fs : List Flds) (j : Nat) (x o l : Value) (xs ys os ls : List (List UInt8)) (y : Value) : Prop :=
  Two w W sb (foldIn B (Fs.take j)).1 (NB + j) sa A NA ∧ LS W x y o l xs (ys ++ (foldIn B (Fs.take j)).2) os ls ∧ SOk (foldIn B (Fs.take j)).1 ∧ (foldIn B (Fs.take j)).2.length ≤ j * 4000 ∧ New w x ∧ New w y

theorem FW.start {w W : World} {sb : Nat} {B : St} {NB sa : Nat} {A : St} {NA : Nat} {Fs : List Flds} {x o l y : Value} {xs ys os ls : List (List UInt8)} (h : Two w W sb B NB sa A NA) (h2 : LS W x y o l xs ys os ls) (h3 : SOk B) (h4 : New w x) (h5 : New w y) : FW w W sb B NB sa A NA Fs 0 x o l xs ys os ls y :=
  ⟨h, by simpa [foldIn] using h2, h3, by simp [foldIn], h4, h5⟩

theorem FW.next {w W W6 W7 : World} {sb : Nat} {B : St} {NB sa : Nat} {A : St} {NA : Nat} {Fs : List Flds} {j : Nat} {x o l y y' : Value} {xs ys os ls : List (List UInt8)} {F : Flds} (h : FW w W sb B NB sa A NA Fs j x o l xs ys os ls y) (hF : Fs[j]? = some F) (hok : FOk F) (hN : NB + j ≤ 3900)
    (t6 : Two w W6 sb (inSt (foldIn B (Fs.take j)).1 F).1 (NB + j + 1) sa A NA) (k6 : Kept W W6) (b7 : Bx W7 y' (ys ++ (foldIn B (Fs.take j)).2 ++ (inSt (foldIn B (Fs.take j)).1 F).2)) (f7 : Fr (fun q => y.ownBlock = some q) W6 W7) (e7 : ∀ q, y'.ownBlock = some q → y.ownBlock = some q ∨ W6.heap.size ≤ q) :
    FW w W7 sb B NB sa A NA Fs (j + 1) x o l xs ys os ls y' := by
  obtain ⟨h1, h2, h3, h4, h5, h6⟩ := h
  have hl := h2.kept k6
  have ho := in_outs (S := (foldIn B (Fs.take j)).1) (F := F)
  have he := h1.early
  unfold FW
  rw [foldIn_take hF]
  refine ⟨t6.row hl.by_ h6 f7, ?_, in_ok h3 hok, ?_, h5, fun q hq => (e7 q hq).elim (h6 q) (fun e => Nat.le_trans t6.fr.size e)⟩
  · rw [← List.append_assoc]; exact hl.grow b7 f7 e7
  · rw [List.length_append]; omega

/-- Behind a's frames (and the elder ones). -/
def GW (w W : World) (m sb : Nat) (B1 : St) (ys1 : List (List UInt8)) (sa : Nat) (A : St) (NA : Nat) (x o l : Value) (xs os ls : List (List UInt8)) (bd yd : Nat) (y : Value) : Prop :=
  ∃ (B : St) (NB : Nat) (ys : List (List UInt8)), Two w W sb B NB sa A NA ∧ NB ≤ bd ∧ LS W x y o l xs ys os ls ∧ SOk B ∧ (0 < m → B = B1 ∧ ys = ys1) ∧ New w x ∧ New w y ∧ ys.length ≤ yd

theorem GW.start {w W : World} {m sb : Nat} {B : St} {NB sa : Nat} {A : St} {NA : Nat} {Fs : List Flds} {j : Nat} {x o l y : Value} {xs ys os ls : List (List UInt8)} (h : Two w W sb (foldIn B Fs).1 (NB + j) sa A NA ∧ LS W x y o l xs (ys ++ (foldIn B Fs).2) os ls ∧ SOk (foldIn B Fs).1 ∧ (foldIn B Fs).2.length ≤ j * 4000 ∧ New w x ∧ New w y) (hj : j ≤ 8) :
    GW w W m sb (foldIn B Fs).1 (ys ++ (foldIn B Fs).2) sa A NA x o l xs os ls (NB + 8) (ys.length + 32000) y :=
  ⟨_, _, _, h.1, by omega, h.2.1, h.2.2.1, fun _ => ⟨rfl, rfl⟩, h.2.2.2.2.1, h.2.2.2.2.2, by rw [List.length_append]; have := h.2.2.2.1; omega⟩

theorem GW.le {w W : World} {m sb : Nat} {B1 : St} {ys1 : List (List UInt8)} {sa : Nat} {A : St} {NA : Nat} {x o l y : Value} {xs os ls : List (List UInt8)} {bd bd' yd : Nat} (h : GW w W m sb B1 ys1 sa A NA x o l xs os ls bd yd y) (hb : bd ≤ bd') : GW w W m sb B1 ys1 sa A NA x o l xs os ls bd' yd y :=
  let ⟨B, NB, ys, h1, h2, h3⟩ := h; ⟨B, NB, ys, h1, Nat.le_trans h2 hb, h3⟩

theorem round_sum (a b n : Nat) (w : World) (hn : 0 < n) (hk : a + b ≤ 1000000000) (hn2 : n ≤ 1000000000) :
    Calls Try.prog 22 #[.int .i64 ((a : Int) + (b : Int)), .int .i64 (n : Int)] w fun e w' => e = .returned (.int .i64 (((a + b) % n : Nat) : Int)) ∧ w = w' := by
  have := round_nn (a + b) n w hn hk hn2
  rw [show (((a + b : Nat) : Int)) = (a : Int) + (b : Int) from by omega] at this
  exact this

set_option maxRecDepth 100000 in
set_option maxHeartbeats 6400000 in
theorem epochs_ok (n m late : Nat) (w : World) (h1 : n ≤ 20) (h2 : m ≤ 20) (h3 : late ≤ 20) :
    Calls Try.prog 14 #[.int .i64 n, .int .i64 m, .int .i64 late] w (Yes w) := by
  have g1 : ¬ (n : Int) < 0 := by omega
  have g2 : ¬ 20 < (n : Int) := by omega
  have g3 : ¬ (m : Int) < 0 := by omega
  have g4 : ¬ 20 < (m : Int) := by omega
  have g5 : ¬ (late : Int) < 0 := by omega
  have g6 : ¬ 20 < (late : Int) := by omega
  go_enter Try.func14, Try.ntmps14
  go_wp2_with fail
  refine (fresh20_c 1 _ (by omega) (by omega)).mono ?_
  rintro e w1 ⟨tb, sa, sb, rfl, t1, tt1, z1⟩
  have T : Hid (Two w w1 sa (EZ 0) 0 sb (fresh 8 1) 0) := hid t1
  have c0 : w1.cell? ⟨tb, 0, none⟩ = some (.pointer (some ⟨sa, 0, none⟩)) := by rw [cell_at tt1]; rfl
  have c1 : w1.cell? ⟨tb, 1, none⟩ = some (.pointer (some ⟨sb, 0, none⟩)) := by rw [cell_at tt1]; rfl
  clear t1 tt1 z1
  go_wp2_with fail
  go_quiet (fail)
  have T := hid (T.out.keep0 ((Fr.refl F0 w1).drewN nq))
  go_wp2_with fail
  clear c0 c1
  go_loopg [11] n (fun gh i wr => ∃ k : Nat, k + gh = n ∧ i = .int .i64 k ∧ Hid (Two w wr sa (EZ k) 0 sb (fresh 8 1) 0))
  case atStart => exact ⟨0, by omega, rfl, T⟩
  case round =>
    clear T
    obtain ⟨k, hkg, rfl, T⟩ := hrel
    by_cases hlt : k < n
    · have hki : (k : Int) < (n : Int) := by omega
      have HKG := hid hkg
      have wu : IntKind.u8.wrap (k : Int) = (k : Int) := by simp [IntKind.wrap_u8]; omega
      clear hkg
      go_wp2_with fail
      refine (two_send _ [1, UInt8.ofNat k] (T.out.keep0 ((Fr.refl _ _).alloc _)) (rdTwo wr 1 k (by omega)) (by simp) (by simp [EZ, ems_len]; omega)).mono ?_
      rintro e w4 ⟨rfl, t4, _⟩
      have T4 : Hid (Two w w4 sa (EZ (k + 1)) 0 sb (fresh 8 1) 0) := hid (by unfold EZ; rw [← ems_snoc]; exact t4)
      clear t4
      go_wp2_with fail
      go_roundg (gk - 1)
      case measure => have := HKG.out; omega
      case rel => exact ⟨k + 1, by have := HKG.out; omega, by go_num, T4⟩
    · have hkn : n = k := by omega
      subst hkn
      clear hkg hlt
      go_wp2_with fail
      refine (two_out 0 T.out (EZ_ok (by omega)) (by omega)).mono ?_
      rintro e w5 ⟨r5, us5, rfl, b5, n5, t5, k5⟩
      have HA1 : Hid (SOk (outSt (EZ n) 0).1 ∧ (outSt (EZ n) 0).1.epoch = 3 ∧ (outSt (EZ n) 0).1.wait = 1) := hid ⟨out_ok (EZ_ok (by omega)) (by omega), rfl, rfl⟩
      have HOF : Hid (OldF n (outSt (EZ n) 0).2) := hid (oldF n h1)
      generalize (outSt (EZ n) 0).1 = A1 at *
      generalize (outSt (EZ n) 0).2 = os at *
      obtain ⟨oa, oc, rfl⟩ := b5.form
      obtain ⟨ol, HOL⟩ : ∃ ol, Hid (os.length = ol) := ⟨_, hid rfl⟩
      rw [HOL.out] at b5 ⊢
      have T5 := hid t5
      have B5 : Hid (Bx w5 (.slice oa ol oc) os) := hid ⟨us5, b5⟩
      have HON : Hid (ol = min n 8) := hid (by rw [← HOL.out]; exact HOF.out.1)
      clear b5 n5 t5 k5 T
      go_upto_region 13 with fail
      go_cut [87] (fun s wx => s = .bool (decide (0 < n) && decide (0 < late)) ∧ wx = w5)
      case first =>
        as_aux_lemma =>
          by_cases q1 : 0 < n
          · have q1' : (0 : Int) < (ol : Int) := by have := HON.out; omega
            have q1b : decide (0 < n) = true := decide_eq_true q1
            by_cases q2 : 0 < late
            · have q2' : (0 : Int) < (late : Int) := by omega
              have q2b : decide (0 < late) = true := decide_eq_true q2
              go_wp2_with fail
              go_meet
              case rel => exact ⟨by rw [q1b, q2b]; rfl, rfl⟩
            · have q2' : ¬ (0 : Int) < (late : Int) := by omega
              have q2b : decide (0 < late) = false := decide_eq_false q2
              go_wp2_with fail
              go_meet
              case rel => exact ⟨by rw [q1b, q2b]; simp, rfl⟩
          · have q1' : ¬ (0 : Int) < (ol : Int) := by have := HON.out; omega
            have q1b : decide (0 < n) = false := decide_eq_false q1
            go_wp2_with fail
            go_meet
            case rel => exact ⟨by rw [q1b]; rfl, rfl⟩
      case rest =>
      obtain ⟨rfl, rfl⟩ := hcut
      go_upto_if 87 with fail
      go_cut [] (fun wx => Hid (P6 w wx sa A1 sb (.slice oa ol oc) os))
      case first =>
        as_aux_lemma =>
          by_cases q : (decide (0 < n) && decide (0 < late)) = true
          · rw [q]
            have hol : 0 < ol := by have := HON.out; simp at q; omega
            obtain ⟨x, F, hx, hF1, rfl, hF2⟩ := HOF.out.2.1 (by simp at q; exact q.1)
            have hol' : (0 : Int) < (ol : Int) := by omega
            obtain ⟨us, bl⟩ := B5.out
            obtain ⟨ob, oo, oc', ou, oe, _, hou, ocell, ort⟩ := bl.get 0 x hx
            injection oe with oe1 oe2 oe3
            clear oe2
            subst oe1 oe3
            rw [Nat.add_zero] at ocell
            obtain ⟨oua, ouc, rfl⟩ := ort.form
            have ORT := hid ort
            clear bl q ort hou
            go_wp2_with fail
            refine (two_in _ x ⟨3, 0, 1, 0, [1, 0]⟩ 0 T5.out.swap (fresh_ok (by omega) (by omega) (by omega) (by omega)) ORT.out.1 hF2 hF1 (by omega)).mono ?_
            rintro e w6 ⟨r6, us6, rfl, b6, n6, t6, k6⟩
            have he : inSt (fresh 8 1) ⟨3, 0, 1, 0, [1, 0]⟩ = (F0b 0 3 1 true, [[1, 0]]) := by rfl
            rw [he] at b6 t6
            dsimp only at b6 t6
            obtain ⟨xa, xc, rfl⟩ := b6.form
            have HP : Hid (P6 w w6 sa A1 sb (.slice (some ⟨ob, oo, none⟩) ol oc) os) := hid ⟨3, 1, true, 1, by omega, by omega, by omega, t6.swap, B5.out.kept k6⟩
            clear b6 n6 t6 k6 ocell
            go_wp2_with fail
            go_meet
            case rel => exact HP
          · have q' : (decide (0 < n) && decide (0 < late)) = false := by simpa using q
            rw [q']
            clear q q'
            go_wp2_with fail
            go_meet
            case rel => exact hid ⟨0, 0, false, 0, by omega, by omega, by omega, T5.out, B5.out⟩
      case rest =>
      obtain ⟨pe, hv, tl, NB0, p1, p2, p3, t6, bo⟩ := hcut.out
      have T6 := hid t6
      have BO := hid bo
      have HP6 := hid (And.intro p1 (And.intro p2 p3))
      clear t6 bo hcut T5 B5 p1 p2 p3
      go_wp2_with fail
      refine (two_reset_lo 3 T6.out (by omega) (by omega) (by rw [HA1.out.2.1]; omega)).mono ?_
      rintro e w7 ⟨rfl, rfl⟩
      go_wp2_with fail
      refine (two_reset 4 T6.out (by omega) (by omega) (by rw [HA1.out.2.1]; omega) (by rw [HA1.out.2.2]; omega) (by rw [HA1.out.2.2]; omega)).mono ?_
      rintro e w7 ⟨rfl, t7, k7⟩
      rw [HA1.out.2.2] at t7
      have T7 : Hid (Two w w7 sa (E0 0) 0 sb (F0b 0 pe hv tl) NB0) := hid t7
      have BO := hid (BO.out.kept k7)
      clear t7 k7 T6 HA1 A1
      go_wp2_with fail
      refine (two_epoch T7.out).mono ?_
      rintro e w8 ⟨rfl, rfl⟩
      dsimp only [E0]
      go_wp2_with fail
      refine (two_waiting T7.out).mono ?_
      rintro e w8 ⟨rfl, rfl⟩
      dsimp only [E0, ems, List.length]
      go_wp2_with fail
      refine (two_peer T7.out).mono ?_
      rintro e w8 ⟨rfl, rfl⟩
      dsimp only [E0]
      go_wp2_with fail
      go_loopg [15] m (fun gh i wr => ∃ k : Nat, k + gh = m ∧ i = .int .i64 k ∧ Hid (Two w wr sa (E0 k) 0 sb (F0b k pe hv tl) NB0 ∧ Bx wr (.slice oa ol oc) os))
      case atStart => exact ⟨0, by omega, rfl, hid ⟨T7.out, BO.out⟩⟩
      case round =>
        clear T7 BO
        obtain ⟨k, hkg, rfl, T⟩ := hrel
        by_cases hlt : k < m
        · have hki : (k : Int) < (m : Int) := by omega
          have HKG := hid hkg
          have wu : IntKind.u8.wrap (k : Int) = (k : Int) := by simp [IntKind.wrap_u8]; omega
          clear hkg
          go_wp2_with fail
          refine (two_send _ [2, UInt8.ofNat k] (T.out.1.keep0 ((Fr.refl _ _).alloc _)) (rdTwo wr 2 k (by omega)) (by simp) (by simp [E0, ems_len]; omega)).mono ?_
          rintro e w4 ⟨rfl, t4, k4⟩
          have T4 : Hid (Two w w4 sa (E0 (k + 1)) 0 sb (F0b k pe hv tl) NB0) := hid (by rw [show E0 (k + 1) = sendSt (E0 k) [2, UInt8.ofNat k] from by unfold E0 sendSt; rw [← ems_snoc]; rfl]; exact t4)
          have BO := hid ((T.out.2.keep0 ((Fr.refl _ _).alloc _)).kept k4)
          clear t4 k4 T
          go_wp2_with fail
          refine (two_send _ [3, UInt8.ofNat k] (T4.out.swap.keep0 ((Fr.refl _ _).alloc _)) (rdTwo w4 3 k (by omega)) (by simp) (by simp [F0b, ems_len]; omega)).mono ?_
          rintro e w5 ⟨rfl, t5, k5⟩
          have T5 : Hid (Two w w5 sa (E0 (k + 1)) 0 sb (F0b (k + 1) pe hv tl) NB0) := hid (by rw [show F0b (k + 1) pe hv tl = sendSt (F0b k pe hv tl) [3, UInt8.ofNat k] from by unfold F0b sendSt; rw [← ems_snoc]; rfl]; exact t5.swap)
          have BO := hid ((BO.out.keep0 ((Fr.refl _ _).alloc _)).kept k5)
          clear t5 k5 T4
          go_wp2_with fail
          go_roundg (gk - 1)
          case measure => have := HKG.out; omega
          case rel => exact ⟨k + 1, by have := HKG.out; omega, by go_num, hid ⟨T5.out, BO.out⟩⟩
        · have hkn : m = k := by omega
          subst hkn
          clear hkg hlt
          go_wp2_with fail
          have HE : Hid (EW w wr sa sb m 1 (.slice oa ol oc) os (.slice none 0 0) (.slice none 0 0)) := hid (EW.start T.out.1 T.out.2 h2 HP6.out.1 HP6.out.2.1 HP6.out.2.2)
          clear T
          go_loopg [16, 17, 18] 29 (fun gh x y t wr => ∃ nw : Nat, nw + gh = 30 ∧ 1 ≤ nw ∧ t = .int .i64 nw ∧ (∃ a b c, x = .slice a b c) ∧ (∃ a b c, y = .slice a b c) ∧ Hid (EW w wr sa sb m nw (.slice oa ol oc) os x y))
          case atStart => exact ⟨1, by omega, by omega, rfl, ⟨_, _, _, rfl⟩, ⟨_, _, _, rfl⟩, HE⟩
          case round =>
            clear HE
            obtain ⟨nw, hng, hn1, rfl, ⟨xa, xn, xc, rfl⟩, ⟨ya, yn, yc, rfl⟩, HE⟩ := hrel
            by_cases hnw : nw < 30
            · have hnwi : (nw : Int) < 30 := by omega
              have HNG := hid hng
              clear hng
              obtain ⟨A, B, NA, NB, xs, ys, t0, na, nb, ls0, ha, hb, xl, yl, hex, nx, ny⟩ := HE.out
              have T0 := hid (And.intro t0 (And.intro ls0 (And.intro nx ny)))
              have HNA : Hid (NA ≤ 3000) := hid (by omega)
              have HNB : Hid (NB ≤ 3000) := hid (by omega)
              have HXL : Hid (xs.length ≤ 3000000) := hid (by omega)
              have HYL : Hid (ys.length ≤ 3000000) := hid (by omega)
              have HAB := hid (And.intro ha hb)
              have HNN := hid (And.intro na (And.intro nb (And.intro xl yl)))
              have HEX := hid hex
              clear t0 na nb ls0 ha hb xl yl hex nx ny HE
              go_wp2_with fail
              refine (two_out nw T0.out.1 HAB.out.1 (by omega)).mono ?_
              rintro e w5 ⟨r5, us5, rfl, b5, n5, t5, k5⟩
              obtain ⟨la, lc, rfl⟩ := b5.form
              obtain ⟨ln, HLN⟩ : ∃ ln, Hid ((outSt A nw).2.length = ln) := ⟨_, hid rfl⟩
              have hl8 : ln ≤ 8 := by rw [← HLN.out]; exact out_le A nw
              have HRD : Hid (∀ (j : Nat) (f : List UInt8), (outSt A nw).2[j]? = some f → ∃ F, (outFl A nw)[j]? = some F ∧ rdF f = some F ∧ FOk F ∧ f.length ≤ 35184372088832) := hid (fun j f hf => by
                obtain ⟨F, q1, q2, q3⟩ := out_rd_get HAB.out.1 nw hf
                exact ⟨F, q1, q2, q3, out_xlen HAB.out.1 nw f (List.mem_of_getElem? hf)⟩)
              rw [HLN.out] at b5 n5 ⊢
              have H0 : Hid (FW w w5 sb B NB sa (outSt A nw).1 NA (outFl A nw) 0 (.slice xa xn xc) (.slice oa ol oc) (.slice la ln lc) xs ys os (outSt A nw).2 (.slice ya yn yc)) := hid (FW.start t5.swap (T0.out.2.1.other k5 ⟨us5, b5⟩ (fun q hq => n5 q hq)) HAB.out.2 T0.out.2.2.1 T0.out.2.2.2)
              clear b5 n5 t5 k5 T0
              go_wp2_with fail
              go_loopg [17, 20] ln (fun gh y i wq => ∃ j : Nat, j + gh = ln ∧ i = .int .i64 j ∧ (∃ a b c, y = .slice a b c) ∧ Hid (FW w wq sb B NB sa (outSt A nw).1 NA (outFl A nw) j (.slice xa xn xc) (.slice oa ol oc) (.slice la ln lc) xs ys os (outSt A nw).2 y))
              case atStart => exact ⟨0, by omega, rfl, ⟨_, _, _, rfl⟩, H0⟩
              case round =>
                clear H0
                obtain ⟨j, hjg, rfl, ⟨za, zn, zc, rfl⟩, HW⟩ := hrel
                by_cases hj : j < ln
                · have hji : (j : Int) < (ln : Int) := by omega
                  have HJG := hid hjg
                  clear hjg
                  obtain ⟨us, bl⟩ := HW.out.2.1.bl
                  obtain ⟨fr, hfr⟩ : ∃ f, (outSt A nw).2[j]? = some f := ⟨_, List.getElem?_eq_getElem (by have := HLN.out; omega)⟩
                  obtain ⟨F, hF1, hF2, hF3, hF4⟩ := HRD.out j fr hfr
                  obtain ⟨gb, go, gc, gu, ge, _, _, gcell, grt⟩ := bl.get j _ hfr
                  injection ge with ge ge2 ge3
                  clear ge2
                  subst ge ge3
                  obtain ⟨gua, guc, rfl⟩ := grt.form
                  have HGR := hid grt
                  have HF := hid (And.intro hF1 (And.intro hF2 (And.intro hF3 hF4)))
                  clear bl grt hF1 hF2 hF3 hF4 hfr
                  go_wp2_with fail
                  refine (two_in _ fr F nw HW.out.1 HW.out.2.2.1 HGR.out.1 HF.out.2.2.2 HF.out.2.1 (by have := HNB.out; omega)).mono ?_
                  rintro e w6 ⟨r6, us6, rfl, b6, n6, t6, k6⟩
                  obtain ⟨xxa, xxn, xxc, rfl⟩ := b6.formS
                  have T6 := hid (And.intro t6 k6)
                  have B6 := hid (Exists.intro us6 b6 : Bx _ _ _)
                  have HLY := hid (HW.out.2.1.kept k6).by_
                  have HLEN : Hid ((ys ++ (foldIn B ((outFl A nw).take j)).2).length + (inSt (foldIn B ((outFl A nw).take j)).1 F).2.length ≤ 1000000000) := hid (by
                    have h1 := HW.out.2.2.2.1
                    have h2 := in_outs (S := (foldIn B ((outFl A nw).take j)).1) (F := F)
                    have h3 := HW.out.1.early
                    have h4 := HYL.out
                    have h5 := HNB.out
                    rw [List.length_append]; omega)
                  clear b6 n6 t6 k6 gcell
                  obtain ⟨vy, by6⟩ := HLY.out
                  obtain ⟨vg, bg6⟩ := B6.out
                  have BY6 := hid by6
                  have BG6 := hid bg6
                  clear by6 bg6
                  go_wp2_with (refine wpList_appLL (.tmp 165) (.tmp 166) rfl _ _ vy vg _ _ rfl rfl BY6.out BG6.out HLEN.out rfl ?_)
                  intro y7 w7 b7 f7 e7
                  obtain ⟨y7a, y7n, y7c, rfl⟩ := b7.formS
                  have HW7 := hid (FW.next HW.out HF.out.1 HF.out.2.2.1 (by have := HNB.out; omega) T6.out.1 T6.out.2 ⟨_, by rw [List.append_assoc]; exact b7⟩ f7 e7)
                  clear b7 f7 e7 T6 B6 HLY BY6 BG6 HLEN
                  go_wp2_with fail
                  go_roundg (gk - 1)
                  case measure => have := HJG.out; omega
                  case rel => exact ⟨j + 1, by have := HJG.out; omega, by go_num, ⟨_, _, _, rfl⟩, HW7⟩
                · have hjn : ln = j := by omega
                  subst hjn
                  have hfs : (outFl A nw).take ln = outFl A nw := List.take_of_length_le (by rw [out_len HAB.out.1, HLN.out]; exact Nat.le_refl _)
                  have HG : Hid (GW w wr m sb (tB1 A B nw) (ys ++ tY A B nw) sa (outSt A nw).1 NA (.slice xa xn xc) (.slice oa ol oc) (.slice la ln lc) xs os (outSt A nw).2 (NB + 8) (ys.length + 32000) (.slice za zn zc)) := hid (GW.start (by have := HW.out; unfold FW at this; rw [hfs] at this; exact this) hl8)
                  clear hfs hjg hj HW
                  go_upto_region 36 with fail
                  go_cut [174] (fun s wx => s = .bool (decide (2 < nw) && decide (0 < ol)) ∧ wx = wr)
                  case first =>
                    as_aux_lemma =>
                      by_cases q1 : 2 < nw
                      · have q1' : (2 : Int) < (nw : Int) := by omega
                        have q1b : decide (2 < nw) = true := decide_eq_true q1
                        clear q1
                        go_wp2_with fail
                        go_meet
                        case rel => exact ⟨by rw [q1b]; simp, rfl⟩
                      · have q1' : ¬ (2 : Int) < (nw : Int) := by omega
                        have q1b : decide (2 < nw) = false := decide_eq_false q1
                        clear q1
                        go_wp2_with fail
                        go_meet
                        case rel => exact ⟨by rw [q1b]; rfl, rfl⟩
                  case rest =>
                  obtain ⟨rfl, rfl⟩ := hcut
                  go_upto_if 174 with fail
                  go_cut [17] (fun y wx => (∃ a b c, y = .slice a b c) ∧ Hid (GW w wx m sb (tB1 A B nw) (ys ++ tY A B nw) sa (outSt A nw).1 NA (.slice xa xn xc) (.slice oa ol oc) (.slice la ln lc) xs os (outSt A nw).2 (NB + 9) (ys.length + 32000) y))
                  case first =>
                    as_aux_lemma =>
                      by_cases q : (decide (2 < nw) && decide (0 < ol)) = true
                      · rw [q]
                        have hol : 0 < ol := by simp at q; exact q.2
                        clear q
                        obtain ⟨B', NB', ys', t, hnb, lsx, hb, hmm, nx, ny, hyd⟩ := HG.out
                        have GT := hid (And.intro t (And.intro lsx (And.intro nx ny)))
                        have GB := hid (And.intro hnb (And.intro hb (And.intro hmm hyd)))
                        obtain ⟨us, bl⟩ := lsx.bo
                        have hix : (late + nw) % ol < ol := Nat.mod_lt _ hol
                        obtain ⟨fr, hfr⟩ : ∃ f, os[(late + nw) % ol]? = some f := ⟨_, List.getElem?_eq_getElem (by rw [HOL.out]; exact hix)⟩
                        obtain ⟨F, hF1, hF2, hF3, hF4⟩ := HOF.out.2.2 _ fr hfr
                        obtain ⟨gb, go, gc, gu, ge, _, _, gcell, grt⟩ := bl.get _ _ hfr
                        injection ge with ge ge2 ge3
                        clear ge2
                        subst ge ge3
                        obtain ⟨gua, guc, rfl⟩ := grt.form
                        have HGR := hid grt
                        have HF := hid (And.intro hF1 (And.intro hF2 (And.intro hF3 hF4)))
                        have hol' : (0 : Int) < (ol : Int) := by omega
                        obtain ⟨ix, hixe⟩ : ∃ ix, (late + nw) % ol = ix := ⟨_, rfl⟩
                        have hrs := round_sum late nw ol
                        rw [hixe] at hix gcell hrs
                        have hixi : (ix : Int) < (ol : Int) := by omega
                        have HRS := hid hrs
                        clear t hnb lsx hb hmm nx ny hyd bl hfr hF1 hF2 hF3 hF4 grt hrs hixe
                        go_wp2_with fail
                        refine (HRS.out _ hol (by omega) (by have := HON.out; omega)).mono ?_
                        rintro e w6 ⟨rfl, rfl⟩
                        go_wp2_with fail
                        refine (two_in _ fr F nw GT.out.1 GB.out.2.1 HGR.out.1 HF.out.2.2.2 HF.out.1 (by have := HNB.out; have := GB.out.1; omega)).mono ?_
                        rintro e w6 ⟨r6, us6, rfl, b6, n6, t6, k6⟩
                        by_cases hm0 : 0 < m
                        · have hm0' : (0 : Int) < (m : Int) := by omega
                          have hst : inSt B' F = (B', []) := by
                            unfold inSt
                            rw [if_pos]
                            refine stale_lt ?_
                            rw [(GB.out.2.2.1 hm0).1, (HEX.out hm0 |>.step hm0).1, HF.out.2.1]
                            decide
                          rw [hst] at b6 t6
                          dsimp only at b6 t6
                          obtain ⟨xxa, xxc, rfl⟩ := b6.form
                          have HGG : Hid (GW w w6 m sb (tB1 A B nw) (ys ++ tY A B nw) sa (outSt A nw).1 NA (.slice xa xn xc) (.slice (some ⟨gb, go, none⟩) ol oc) (.slice la ln lc) xs os (outSt A nw).2 (NB + 9) (ys.length + 32000) (.slice za zn zc)) := hid ⟨B', NB' + 1, ys', t6, by have := GB.out.1; omega, GT.out.2.1.kept k6, GB.out.2.1, GB.out.2.2.1, GT.out.2.2.1, GT.out.2.2.2, GB.out.2.2.2⟩
                          dsimp only [List.length]
                          clear b6 n6 t6 k6 hm0 hst gcell
                          go_wp2_with fail
                          go_meet
                          case rel => exact ⟨⟨_, _, _, rfl⟩, HGG⟩
                        · have hm0' : m = 0 := by omega
                          obtain ⟨xxa, xxn, xxc, rfl⟩ := b6.formS
                          have HGG : Hid (GW w w6 m sb (tB1 A B nw) (ys ++ tY A B nw) sa (outSt A nw).1 NA (.slice xa xn xc) (.slice (some ⟨gb, go, none⟩) ol oc) (.slice la ln lc) xs os (outSt A nw).2 (NB + 9) (ys.length + 32000) (.slice none 0 0)) := hid ⟨_, NB' + 1, [], t6, by have := GB.out.1; omega, (GT.out.2.1.kept k6).anew, in_ok GB.out.2.1 HF.out.2.2.1, fun h => absurd h hm0, GT.out.2.2.1, New.nil _ _ _, by simp⟩
                          have hmz : ((m : Int) == 0) = true := by simp [hm0']
                          have hmz2 : decide ((0 : Int) < (m : Int)) = false := by simp; omega
                          clear b6 n6 t6 k6 hm0 hm0' gcell
                          go_wp2_with fail
                          go_meet
                          case rel => exact ⟨⟨_, _, _, rfl⟩, HGG⟩
                      · have q' : (decide (2 < nw) && decide (0 < ol)) = false := by simpa using q
                        rw [q']
                        clear q q'
                        go_wp2_with fail
                        go_meet
                        case rel => exact ⟨⟨_, _, _, rfl⟩, hid (HG.out.le (by omega))⟩
                  case rest =>
                  obtain ⟨⟨yb, yb2, yb3, rfl⟩, HG2⟩ := hcut
                  obtain ⟨B', NB', ys', t, hnb, lsx, hb, hmm, nx, ny, hyd⟩ := HG2.out
                  have GT := hid (And.intro t (And.intro lsx (And.intro nx ny)))
                  have GB := hid (And.intro hnb (And.intro hb (And.intro hmm hyd)))
                  clear t hnb lsx hb hmm nx ny hyd HG2 HG HLN HRD
                  go_wp2_with fail
                  refine (two_out nw GT.out.1 GB.out.2.1 (by omega)).mono ?_
                  rintro e w5 ⟨r5, us5, rfl, b5, n5, t5, k5⟩
                  obtain ⟨la2, lc2, rfl⟩ := b5.form
                  obtain ⟨ln2, HLN⟩ : ∃ ln, Hid ((outSt B' nw).2.length = ln) := ⟨_, hid rfl⟩
                  have hl82 : ln2 ≤ 8 := by rw [← HLN.out]; exact out_le B' nw
                  have HRD : Hid (∀ (j : Nat) (f : List UInt8), (outSt B' nw).2[j]? = some f → ∃ F, (outFl B' nw)[j]? = some F ∧ rdF f = some F ∧ FOk F ∧ f.length ≤ 35184372088832) := hid (fun j f hf => by
                    obtain ⟨F, q1, q2, q3⟩ := out_rd_get GB.out.2.1 nw hf
                    exact ⟨F, q1, q2, q3, out_xlen GB.out.2.1 nw f (List.mem_of_getElem? hf)⟩)
                  rw [HLN.out] at b5 n5 ⊢
                  have HA1 : Hid (SOk (outSt A nw).1) := hid (out_ok HAB.out.1 (by omega))
                  have H1 : Hid (FW w w5 sa (outSt A nw).1 NA sb (outSt B' nw).1 NB' (outFl B' nw) 0 (.slice yb yb2 yb3) (.slice oa ol oc) (.slice la2 ln2 lc2) ys' xs os (outSt B' nw).2 (.slice xa xn xc)) := hid (FW.start t5.swap (GT.out.2.1.swap.other k5 ⟨us5, b5⟩ (fun q hq => n5 q hq)) HA1.out GT.out.2.2.2 GT.out.2.2.1)
                  clear b5 n5 t5 k5 GT
                  go_wp2_with fail
                  go_loopg [16, 25] ln2 (fun gh y i wq => ∃ j : Nat, j + gh = ln2 ∧ i = .int .i64 j ∧ (∃ a b c, y = .slice a b c) ∧ Hid (FW w wq sa (outSt A nw).1 NA sb (outSt B' nw).1 NB' (outFl B' nw) j (.slice yb yb2 yb3) (.slice oa ol oc) (.slice la2 ln2 lc2) ys' xs os (outSt B' nw).2 y))
                  case atStart => exact ⟨0, by omega, rfl, ⟨_, _, _, rfl⟩, H1⟩
                  case round =>
                    clear H1
                    obtain ⟨j, hjg, rfl, ⟨za, zn, zc, rfl⟩, HW⟩ := hrel
                    by_cases hj : j < ln2
                    · have hji : (j : Int) < (ln2 : Int) := by omega
                      have HJG := hid hjg
                      clear hjg
                      obtain ⟨us, bl⟩ := HW.out.2.1.bl
                      obtain ⟨fr, hfr⟩ : ∃ f, (outSt B' nw).2[j]? = some f := ⟨_, List.getElem?_eq_getElem (by have := HLN.out; omega)⟩
                      obtain ⟨F, hF1, hF2, hF3, hF4⟩ := HRD.out j fr hfr
                      obtain ⟨gb, go, gc, gu, ge, _, _, gcell, grt⟩ := bl.get j _ hfr
                      injection ge with ge ge2 ge3
                      clear ge2
                      subst ge ge3
                      obtain ⟨gua, guc, rfl⟩ := grt.form
                      have HGR := hid grt
                      have HF := hid (And.intro hF1 (And.intro hF2 (And.intro hF3 hF4)))
                      clear bl grt hF1 hF2 hF3 hF4 hfr
                      go_wp2_with fail
                      refine (two_in _ fr F nw HW.out.1 HW.out.2.2.1 HGR.out.1 HF.out.2.2.2 HF.out.2.1 (by have := HNA.out; omega)).mono ?_
                      rintro e w6 ⟨r6, us6, rfl, b6, n6, t6, k6⟩
                      obtain ⟨xxa, xxn, xxc, rfl⟩ := b6.formS
                      have T6 := hid (And.intro t6 k6)
                      have B6 := hid (Exists.intro us6 b6 : Bx _ _ _)
                      have HLY := hid (HW.out.2.1.kept k6).by_
                      have HLEN : Hid ((xs ++ (foldIn (outSt A nw).1 ((outFl B' nw).take j)).2).length + (inSt (foldIn (outSt A nw).1 ((outFl B' nw).take j)).1 F).2.length ≤ 1000000000) := hid (by
                        have h1 := HW.out.2.2.2.1
                        have h2 := in_outs (S := (foldIn (outSt A nw).1 ((outFl B' nw).take j)).1) (F := F)
                        have h3 := HW.out.1.early
                        have h4 := HXL.out
                        have h5 := HNA.out
                        rw [List.length_append]; omega)
                      clear b6 n6 t6 k6 gcell
                      obtain ⟨vy, by6⟩ := HLY.out
                      obtain ⟨vg, bg6⟩ := B6.out
                      have BY6 := hid by6
                      have BG6 := hid bg6
                      clear by6 bg6
                      go_wp2_with (refine wpList_appLL (.tmp 224) (.tmp 225) rfl _ _ vy vg _ _ rfl rfl BY6.out BG6.out HLEN.out rfl ?_)
                      intro y7 w7 b7 f7 e7
                      obtain ⟨y7a, y7n, y7c, rfl⟩ := b7.formS
                      have HW7 := hid (FW.next HW.out HF.out.1 HF.out.2.2.1 (by have := HNA.out; omega) T6.out.1 T6.out.2 ⟨_, by rw [List.append_assoc]; exact b7⟩ f7 e7)
                      clear b7 f7 e7 T6 B6 HLY BY6 BG6 HLEN
                      go_wp2_with fail
                      go_roundg (gk - 1)
                      case measure => have := HJG.out; omega
                      case rel => exact ⟨j + 1, by have := HJG.out; omega, by go_num, ⟨_, _, _, rfl⟩, HW7⟩
                    · have hjn : ln2 = j := by omega
                      subst hjn
                      have hfs : (outFl B' nw).take ln2 = outFl B' nw := List.take_of_length_le (by rw [out_len GB.out.2.1, HLN.out]; exact Nat.le_refl _)
                      have HE2 : Hid (EW w wr sa sb m (nw + 1) (.slice oa ol oc) os (.slice za zn zc) (.slice yb yb2 yb3)) := hid (by
                        have hw := HW.out
                        unfold FW at hw
                        rw [hfs] at hw
                        obtain ⟨z1, z2, z3, z4, z5, z6⟩ := hw
                        refine ⟨_, _, _, _, _, _, z1.swap.swap, ?_, ?_, (z2.swap.other (Kept.refl _) ⟨[], Bl.nil _⟩ (New.nil _ _ _)), z3, out_ok GB.out.2.1 (by omega), ?_, ?_, ?_, z6, z5⟩
                        · have := HNN.out.1; omega
                        · have := HNN.out.2.1; have := GB.out.1; omega
                        · have := HNN.out.2.2.1; rw [List.length_append]; omega
                        · have := HNN.out.2.2.2; have := GB.out.2.2.2; omega
                        · intro hm
                          obtain ⟨rfl, rfl⟩ := GB.out.2.2.1 hm
                          exact ((HEX.out hm).step hm).2)
                      clear hfs hjg hj HW
                      go_wp2_with fail
                      go_roundg (30 - (nw + 1))
                      case measure => have := HNG.out; omega
                      case rel => exact ⟨nw + 1, by have := HNG.out; omega, by omega, by go_num, ⟨_, _, _, rfl⟩, ⟨_, _, _, rfl⟩, HE2⟩
            · have hnw30 : nw = 30 := by omega
              subst hnw30
              obtain ⟨A, B, NA, NB, xs, ys, t0, na, nb, ls0, ha, hb, xl, yl, hex, nx, ny⟩ := HE.out
              have T := hid t0
              by_cases hm : m = 0
              · have hm0 : ((m : Int) == 0) = true := by simp [hm]
                have HF := hid t0.fr
                clear t0 na nb ls0 ha hb xl yl hex nx ny HE hng hnw hm T HP6 HOF
                go_wp2_with fail
                refine (awake20_c _).mono ?_
                rintro e w9 ⟨rfl, f9⟩
                have HF := hid (F0.and HF.out f9)
                clear f9
                go_wp2_with fail
                go_ret
                exact ⟨rfl, HF.out⟩
              · have hm0 : ((m : Int) == 0) = false := by simp; omega
                obtain ⟨rfl, rfl, pa, pb⟩ := (hex (by omega)).fin h2
                obtain ⟨ux, bx⟩ := ls0.bx
                obtain ⟨uy, by_⟩ := ls0.by_
                obtain ⟨_, _, ex⟩ := bx.form
                injection ex with ex1 ex2 ex3
                rw [emb_len] at ex2
                obtain ⟨_, _, ey⟩ := by_.form
                injection ey with ey1 ey2 ey3
                rw [emb_len] at ey2
                obtain rfl : m = xn := ex2.symm
                obtain rfl : m = yn := ey2.symm
                have HB := hid (And.intro bx by_)
                have HPP := hid (And.intro pa pb)
                clear t0 na nb ls0 ha hb xl yl hex nx ny HE hng hnw hm ex1 ex3 ey1 ey3 bx by_ pa pb HP6 HOF
                go_wp2_with fail
                go_loopg [28] m (fun gh i wr => ∃ k : Nat, k + gh = m ∧ i = .int .i64 k ∧ Hid (Two w wr sa A NA sb B NB ∧ Bl wr (.slice xa m xc) ux (emb 3 0 m) ∧ Bl wr (.slice ya m yc) uy (emb 2 0 m)))
                case atStart => exact ⟨0, by omega, rfl, hid ⟨T.out, HB.out.1, HB.out.2⟩⟩
                case round =>
                  as_aux_lemma =>
                    clear T HB
                    obtain ⟨k, hkg, rfl, T⟩ := hrel
                    by_cases hlt : k < m
                    · have hki : (k : Int) < (m : Int) := by omega
                      have HKG := hid hkg
                      have wu : IntKind.u8.wrap (k : Int) = (k : Int) := by simp [IntKind.wrap_u8]; omega
                      clear hkg
                      have gx : (emb 3 0 m)[k]? = some [3, UInt8.ofNat k] := by rw [emb_get 3 m 0 k hlt, Nat.zero_add]; rfl
                      have gy : (emb 2 0 m)[k]? = some [2, UInt8.ofNat k] := by rw [emb_get 2 m 0 k hlt, Nat.zero_add]; rfl
                      obtain ⟨xb, xo, _, xu, ge, _, _, xcell, xrt⟩ := T.out.2.1.get k _ gx
                      injection ge with ge ge2 ge3
                      clear ge2 ge3
                      subst ge
                      obtain ⟨yb, yo, _, yu, ge, _, _, ycell, yrt⟩ := T.out.2.2.get k _ gy
                      injection ge with ge ge2 ge3
                      clear ge2 ge3
                      subst ge
                      obtain ⟨xua, xuc, rfl⟩ := xrt.form
                      obtain ⟨yua, yuc, rfl⟩ := yrt.form
                      have HX : Hid (wr.cell? ⟨xb, xo + k, none⟩ = some (.slice xua 2 xuc) ∧ Rt wr (.slice xua 2 xuc) [3, UInt8.ofNat k]) := hid ⟨xcell, xrt⟩
                      have HY : Hid (wr.cell? ⟨yb, yo + k, none⟩ = some (.slice yua 2 yuc) ∧ Rt wr (.slice yua 2 yuc) [2, UInt8.ofNat k]) := hid ⟨ycell, yrt⟩
                      have HK8 : Hid (k < 256) := hid (by omega)
                      clear xcell xrt ycell yrt gx gy
                      go_wp2_with fail
                      refine pz_start [] (fun w' => Fr F0 wr w') (by kernel_rfl) ?_
                      have hS0 : Fr F0 wr wr.drew := (Fr.refl _ _).drew
                      have q3 : ∀ w' : World, Fr F0 wr w' → w'.cell? ⟨xb, xo + k, none⟩ = some (.slice xua 2 xuc) := fun w' f => (f.cell (p := ⟨xb, xo + k, none⟩) (block_lt_of_cell HX.out.1) (fun e => e)).trans HX.out.1
                      have q4 : ∀ w' : World, Fr F0 wr w' → (convert 25 9 (.slice xua 2 xuc)).run Try.prog w' = .ok (.string ⟨#[3, UInt8.ofNat k]⟩) w' := fun w' f => runStr w' _ _ (HX.out.2.1.keep0 f)
                      refine pz_take 0 (v := ?_) [] rfl (by kernel_rfl) (by kernel_rfl) (by kernel_rfl) (by kernel_rfl) (fun _ _ _ h => h) (by rfl) hS0 (fun w' hS' => ?_) ?_
                      rotate_left
                      · (try dsimp only at hS'); go_simp
                        try with_reducible rfl
                      simp only [Act.put, List.setIfInBounds_toArray, List.set_cons_zero, List.set_cons_succ]
                      refine pz_take 1 (v := ?_) [] rfl (by kernel_rfl) (by kernel_rfl) (by kernel_rfl) (by kernel_rfl) (fun _ _ _ h => h) (by rfl) hS0 (fun w' hS' => ?_) ?_
                      rotate_left
                      · (try dsimp only at hS'); go_simp
                        try with_reducible rfl
                      simp only [Act.put, List.setIfInBounds_toArray, List.set_cons_zero, List.set_cons_succ]
                      refine pz_take 5 (v := ?_) [] rfl (by kernel_rfl) (by kernel_rfl) (by kernel_rfl) (by kernel_rfl) (fun _ _ _ h => h) (by rfl) hS0 (fun w' hS' => ?_) ?_
                      rotate_left
                      · (try dsimp only at hS'); go_simp
                        try with_reducible rfl
                      simp only [Act.put, List.setIfInBounds_toArray, List.set_cons_zero, List.set_cons_succ]
                      refine pz_take 2 (v := ?_) [] rfl (by kernel_rfl) (by kernel_rfl) (by kernel_rfl) (by kernel_rfl) (fun _ _ _ h => h) (by rfl) hS0 (fun w' hS' => ?_) ?_
                      rotate_left
                      · (try dsimp only at hS'); go_simp
                        try with_reducible rfl
                      simp only [Act.put, List.setIfInBounds_toArray, List.set_cons_zero, List.set_cons_succ]
                      refine pz_take 6 (v := ?_) [] rfl (by kernel_rfl) (by kernel_rfl) (by kernel_rfl) (by kernel_rfl) (fun _ _ _ h => h) (by rfl) hS0 (fun w' hS' => ?_) ?_
                      rotate_left
                      · (try dsimp only at hS'); go_simp
                        try with_reducible rfl
                      simp only [Act.put, List.setIfInBounds_toArray, List.set_cons_zero, List.set_cons_succ]
                      refine pz_take 3 (v := ?_) [] rfl (by kernel_rfl) (by kernel_rfl) (by kernel_rfl) (by kernel_rfl) (fun _ _ _ h => h) (by rfl) hS0 (fun w' hS' => ?_) ?_
                      rotate_left
                      · (try dsimp only at hS'); go_simp
                        try with_reducible rfl
                      simp only [Act.put, List.setIfInBounds_toArray, List.set_cons_zero, List.set_cons_succ]
                      refine pz_take 4 (v := ?_) [] rfl (by kernel_rfl) (by kernel_rfl) (by kernel_rfl) (by kernel_rfl) (fun _ _ _ h => h) (by rfl) hS0 (fun w' hS' => ?_) ?_
                      rotate_left
                      · (try dsimp only at hS'); go_simp
                        try with_reducible rfl
                      simp only [Act.put, List.setIfInBounds_toArray, List.set_cons_zero, List.set_cons_succ]
                      clear hS0 q3 q4
                      refine pz_step 7 rfl (by kernel_rfl) (fun K hK => ?_)
                      go_wp2_with fail
                      have FA : Hid (Fr F0 wr (wr.alloc (.cells #[.int .u8 3, .int .u8 (k : Int)] 5)).drew) := hid (((Fr.refl F0 wr).alloc _).drew)
                      refine hK (fun w' => Fr F0 (wr.alloc (.cells #[.int .u8 3, .int .u8 (k : Int)] 5)).drew w') _ _ (fun w' f => F0.and FA.out f) (Fr.refl _ _) ?_
                      clear hK K
                      have hS1 : Fr F0 (wr.alloc (.cells #[.int .u8 3, .int .u8 (k : Int)] 5)).drew (wr.alloc (.cells #[.int .u8 3, .int .u8 (k : Int)] 5)).drew := Fr.refl _ _
                      have y3 : ∀ w' : World, Fr F0 (wr.alloc (.cells #[.int .u8 3, .int .u8 (k : Int)] 5)).drew w' → w'.cell? ⟨yb, yo + k, none⟩ = some (.slice yua 2 yuc) := fun w' f => ((F0.and FA.out f).cell (p := ⟨yb, yo + k, none⟩) (block_lt_of_cell HY.out.1) (fun e => e)).trans HY.out.1
                      have y4 : ∀ w' : World, Fr F0 (wr.alloc (.cells #[.int .u8 3, .int .u8 (k : Int)] 5)).drew w' → (convert 25 9 (.slice yua 2 yuc)).run Try.prog w' = .ok (.string ⟨#[2, UInt8.ofNat k]⟩) w' := fun w' f => runStr w' _ _ (HY.out.2.1.keep0 (F0.and FA.out f))
                      have n8 : ∀ w' : World, Fr F0 (wr.alloc (.cells #[.int .u8 3, .int .u8 (k : Int)] 5)).drew w' → (convert 25 9 (.slice (some ⟨wr.heap.size, 0, none⟩) 2 2)).run Try.prog w' = .ok (.string ⟨#[3, UInt8.ofNat k]⟩) w' := fun w' f => runStr w' _ [3, UInt8.ofNat k] ((rdTwo wr 3 k HK8.out).keep0 (F0.and ((Fr.refl F0 _).drew) f))
                      refine pz_take 8 (v := ?_) [] rfl (by kernel_rfl) (by kernel_rfl) (by kernel_rfl) (by kernel_rfl) (fun _ _ _ h => h) (by rfl) hS1 (fun w' hS' => ?_) ?_
                      rotate_left
                      · (try dsimp only at hS'); go_simp
                        try with_reducible rfl
                      simp only [Act.put, List.setIfInBounds_toArray, List.set_cons_zero, List.set_cons_succ]
                      refine pz_take 9 (v := ?_) [] rfl (by kernel_rfl) (by kernel_rfl) (by kernel_rfl) (by kernel_rfl) (fun _ _ _ h => h) (by rfl) hS1 (fun w' hS' => ?_) ?_
                      rotate_left
                      · (try dsimp only at hS'); go_simp
                        try with_reducible rfl
                      simp only [Act.put, List.setIfInBounds_toArray, List.set_cons_zero, List.set_cons_succ]
                      refine pz_take 10 (v := ?_) [] rfl (by kernel_rfl) (by kernel_rfl) (by kernel_rfl) (by kernel_rfl) (fun _ _ _ h => h) (by rfl) hS1 (fun w' hS' => ?_) ?_
                      rotate_left
                      · (try dsimp only at hS'); go_simp
                        try with_reducible rfl
                      simp only [Act.put, List.setIfInBounds_toArray, List.set_cons_zero, List.set_cons_succ]
                      refine pz_take 11 (v := ?_) [] rfl (by kernel_rfl) (by kernel_rfl) (by kernel_rfl) (by kernel_rfl) (fun _ _ _ h => h) (by rfl) hS1 (fun w' hS' => ?_) ?_
                      rotate_left
                      · (try dsimp only at hS'); go_simp
                        try with_reducible rfl
                      simp only [Act.put, List.setIfInBounds_toArray, List.set_cons_zero, List.set_cons_succ]
                      refine pz_take 12 (v := ?_) [] rfl (by kernel_rfl) (by kernel_rfl) (by kernel_rfl) (by kernel_rfl) (fun _ _ _ h => h) (by rfl) hS1 (fun w' hS' => ?_) ?_
                      rotate_left
                      · (try dsimp only at hS'); go_simp
                        try with_reducible rfl
                      simp only [Act.put, List.setIfInBounds_toArray, List.set_cons_zero, List.set_cons_succ]
                      refine pz_take 16 (v := ?_) [] rfl (by kernel_rfl) (by kernel_rfl) (by kernel_rfl) (by kernel_rfl) (fun _ _ _ h => h) (by rfl) hS1 (fun w' hS' => ?_) ?_
                      rotate_left
                      · (try dsimp only at hS'); go_simp
                        try with_reducible rfl
                      simp only [Act.put, List.setIfInBounds_toArray, List.set_cons_zero, List.set_cons_succ]
                      refine pz_take 13 (v := ?_) [] rfl (by kernel_rfl) (by kernel_rfl) (by kernel_rfl) (by kernel_rfl) (fun _ _ _ h => h) (by rfl) hS1 (fun w' hS' => ?_) ?_
                      rotate_left
                      · (try dsimp only at hS'); go_simp
                        try with_reducible rfl
                      simp only [Act.put, List.setIfInBounds_toArray, List.set_cons_zero, List.set_cons_succ]
                      refine pz_take 17 (v := ?_) [] rfl (by kernel_rfl) (by kernel_rfl) (by kernel_rfl) (by kernel_rfl) (fun _ _ _ h => h) (by rfl) hS1 (fun w' hS' => ?_) ?_
                      rotate_left
                      · (try dsimp only at hS'); go_simp
                        try with_reducible rfl
                      simp only [Act.put, List.setIfInBounds_toArray, List.set_cons_zero, List.set_cons_succ]
                      refine pz_take 14 (v := ?_) [] rfl (by kernel_rfl) (by kernel_rfl) (by kernel_rfl) (by kernel_rfl) (fun _ _ _ h => h) (by rfl) hS1 (fun w' hS' => ?_) ?_
                      rotate_left
                      · (try dsimp only at hS'); go_simp
                        try with_reducible rfl
                      simp only [Act.put, List.setIfInBounds_toArray, List.set_cons_zero, List.set_cons_succ]
                      refine pz_take 15 (v := ?_) [] rfl (by kernel_rfl) (by kernel_rfl) (by kernel_rfl) (by kernel_rfl) (fun _ _ _ h => h) (by rfl) hS1 (fun w' hS' => ?_) ?_
                      rotate_left
                      · (try dsimp only at hS'); go_simp
                        try with_reducible rfl
                      simp only [Act.put, List.setIfInBounds_toArray, List.set_cons_zero, List.set_cons_succ]
                      clear hS1 y3 y4 n8
                      refine pz_step 18 rfl (by kernel_rfl) (fun K hK => ?_)
                      go_wp2_with fail
                      have FB : Hid (Fr F0 (wr.alloc (.cells #[.int .u8 3, .int .u8 (k : Int)] 5)).drew ((wr.alloc (.cells #[.int .u8 3, .int .u8 (k : Int)] 5)).alloc (.cells #[.int .u8 2, .int .u8 (k : Int)] 5)).drew) := hid ((Fr.refl F0 (wr.alloc (.cells #[.int .u8 3, .int .u8 (k : Int)] 5)).drew).alloc (.cells #[.int .u8 2, .int .u8 (k : Int)] 5))
                      refine hK (fun w' => Fr F0 ((wr.alloc (.cells #[.int .u8 3, .int .u8 (k : Int)] 5)).alloc (.cells #[.int .u8 2, .int .u8 (k : Int)] 5)).drew w') _ _ (fun w' f => F0.and FB.out f) (Fr.refl _ _) ?_
                      clear hK K
                      have hS2 : Fr F0 ((wr.alloc (.cells #[.int .u8 3, .int .u8 (k : Int)] 5)).alloc (.cells #[.int .u8 2, .int .u8 (k : Int)] 5)).drew ((wr.alloc (.cells #[.int .u8 3, .int .u8 (k : Int)] 5)).alloc (.cells #[.int .u8 2, .int .u8 (k : Int)] 5)).drew := Fr.refl _ _
                      have n19 : ∀ w' : World, Fr F0 ((wr.alloc (.cells #[.int .u8 3, .int .u8 (k : Int)] 5)).alloc (.cells #[.int .u8 2, .int .u8 (k : Int)] 5)).drew w' → (convert 25 9 (.slice (some ⟨wr.heap.size + 1, 0, none⟩) 2 2)).run Try.prog w' = .ok (.string ⟨#[2, UInt8.ofNat k]⟩) w' := fun w' f => by
                        have := (rdTwo (wr.alloc (.cells #[.int .u8 3, .int .u8 (k : Int)] 5)) 2 k HK8.out).keep0 (F0.and ((Fr.refl F0 _).drew) f)
                        rw [heap_size_alloc'] at this
                        exact runStr w' _ [2, UInt8.ofNat k] this
                      refine pz_take 19 (v := ?_) [] rfl (by kernel_rfl) (by kernel_rfl) (by kernel_rfl) (by kernel_rfl) (fun _ _ _ h => h) (by rfl) hS2 (fun w' hS' => ?_) ?_
                      rotate_left
                      · (try dsimp only at hS'); go_simp
                        try with_reducible rfl
                      simp only [Act.put, List.setIfInBounds_toArray, List.set_cons_zero, List.set_cons_succ]
                      refine pz_take 20 (v := ?_) [] rfl (by kernel_rfl) (by kernel_rfl) (by kernel_rfl) (by kernel_rfl) (fun _ _ _ h => h) (by rfl) hS2 (fun w' hS' => ?_) ?_
                      rotate_left
                      · (try dsimp only at hS'); go_simp
                        try with_reducible rfl
                      simp only [Act.put, List.setIfInBounds_toArray, List.set_cons_zero, List.set_cons_succ]
                      refine pz_take 21 (v := ?_) [] rfl (by kernel_rfl) (by kernel_rfl) (by kernel_rfl) (by kernel_rfl) (fun _ _ _ h => h) (by rfl) hS2 (fun w' hS' => ?_) ?_
                      rotate_left
                      · (try dsimp only at hS'); go_simp
                        try with_reducible rfl
                      simp only [Act.put, List.setIfInBounds_toArray, List.set_cons_zero, List.set_cons_succ]
                      refine pz_done (by kernel_rfl) ?_ _
                      clear hS2 n19
                      go_wp2_with fail
                      have HT : Hid (Two w ((wr.alloc (.cells #[.int .u8 3, .int .u8 (k : Int)] 5)).alloc (.cells #[.int .u8 2, .int .u8 (k : Int)] 5)).drew sa A NA sb B NB ∧ Bl ((wr.alloc (.cells #[.int .u8 3, .int .u8 (k : Int)] 5)).alloc (.cells #[.int .u8 2, .int .u8 (k : Int)] 5)).drew (.slice (some ⟨xb, xo, none⟩) m xc) ux (emb 3 0 m) ∧ Bl ((wr.alloc (.cells #[.int .u8 3, .int .u8 (k : Int)] 5)).alloc (.cells #[.int .u8 2, .int .u8 (k : Int)] 5)).drew (.slice (some ⟨yb, yo, none⟩) m yc) uy (emb 2 0 m)) := hid ⟨T.out.1.keep0 ((((Fr.refl F0 wr).alloc _).alloc _).drew), T.out.2.1.keep0 ((((Fr.refl F0 wr).alloc _).alloc _).drew), T.out.2.2.keep0 ((((Fr.refl F0 wr).alloc _).alloc _).drew)⟩
                      go_roundg (gk - 1)
                      case measure => have := HKG.out; omega
                      case rel => exact ⟨k + 1, by have := HKG.out; omega, by go_num, HT⟩
                    · have hkn : m = k := by omega
                      subst hkn
                      clear hkg hlt
                      go_wp2_with fail
                      refine (two_peer T.out.1.swap).mono ?_
                      rintro e w9 ⟨rfl, rfl⟩
                      rw [HPP.out.2]
                      go_wp2_with fail
                      refine (two_peer T.out.1).mono ?_
                      rintro e w9 ⟨rfl, rfl⟩
                      rw [HPP.out.1]
                      go_wp2_with fail
                      refine (awake20_c _).mono ?_
                      rintro e w9 ⟨rfl, f9⟩
                      have HF := hid (F0.and T.out.1.fr f9)
                      clear f9
                      go_wp2_with fail
                      go_ret
                      exact ⟨rfl, HF.out⟩

theorem ecase {P : Prop} (n m t : Int) (h1 : n < 0 → P) (h2 : 0 ≤ n → 20 < n → P) (h3 : 0 ≤ n → n ≤ 20 → m < 0 → P) (h4 : 0 ≤ n → n ≤ 20 → 0 ≤ m → 20 < m → P) (h5 : 0 ≤ n → n ≤ 20 → 0 ≤ m → m ≤ 20 → t < 0 → P)
    (h6 : 0 ≤ n → n ≤ 20 → 0 ≤ m → m ≤ 20 → 0 ≤ t → 20 < t → P) (h7 : 0 ≤ n → n ≤ 20 → 0 ≤ m → m ≤ 20 → 0 ≤ t → t ≤ 20 → P) : P := by
  by_cases a1 : n < 0
  · exact h1 a1
  · by_cases a2 : 20 < n
    · exact h2 (by omega) a2
    · by_cases a3 : m < 0
      · exact h3 (by omega) (by omega) a3
      · by_cases a4 : 20 < m
        · exact h4 (by omega) (by omega) (by omega) a4
        · by_cases a5 : t < 0
          · exact h5 (by omega) (by omega) (by omega) (by omega) a5
          · by_cases a6 : 20 < t
            · exact h6 (by omega) (by omega) (by omega) (by omega) (by omega) a6
            · exact h7 (by omega) (by omega) (by omega) (by omega) (by omega) (by omega)

set_option maxRecDepth 100000 in
set_option maxHeartbeats 1600000 in
theorem epochs_c (n m late : Int) (w : World) : Calls Try.prog 14 #[.int .i64 n, .int .i64 m, .int .i64 late] w (Yes w) := by
  refine ecase n m late ?_ ?_ ?_ ?_ ?_ ?_ (fun a b c d e f => ?_)
  case refine_7 =>
    obtain ⟨n, rfl⟩ : ∃ k : Nat, n = k := ⟨n.toNat, by omega⟩
    obtain ⟨m, rfl⟩ : ∃ k : Nat, m = k := ⟨m.toNat, by omega⟩
    obtain ⟨late, rfl⟩ : ∃ k : Nat, late = k := ⟨late.toNat, by omega⟩
    exact epochs_ok n m late w (by omega) (by omega) (by omega)
  all_goals
    intros
    go_enter Try.func14, Try.ntmps14
    go_wp2_with fail
    refine (awake20_c _).mono ?_
    rintro e w1 ⟨rfl, f1⟩
    go_wp2_with fail
    go_ret
    exact ⟨rfl, f1⟩

end Go.Proofs.Ytfalaopljodmnaa
