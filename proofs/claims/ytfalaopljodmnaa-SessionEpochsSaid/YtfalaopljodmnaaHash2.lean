/- SHA-256, the program's: Add. -/
import Derived.Test.YtfalaopljodmnaaHash
namespace Go.Proofs.Ytfalaopljodmnaa
open Go.RowKit

/-- The state behind k blocks of m. -/
def blk (s : S8) (m : List UInt8) : Nat → S8
  | 0 => s
  | k + 1 => stepS (blk s m k) ((m.drop (64 * k)).take 64)

theorem blk_ok {s : S8} (h : s.ok) (m : List UInt8) : ∀ k, (blk s m k).ok
  | 0 => h
  | _ + 1 => stepS_ok _ _

theorem begun_ok {s : S8} (h : s.ok) : ∀ on, (begun on s).ok
  | true => h
  | false => by unfold begun iv S8.ok W32; simp

/-- How long the slice in the hasher's wait is. -/
def lenAt (w : World) (hb : Nat) : Nat := match w.cell? ⟨hb, 9, none⟩ with | some (.slice _ n _) => n | _ => 0

theorem HB.lenAt {w : World} {hb : Nat} {s : S8} {on : Bool} {a : Option Addr} {m c : Nat} {n : Int} (h : HB w hb s on (.slice a m c) n) : lenAt w hb = m := by
  unfold Go.Proofs.Ytfalaopljodmnaa.lenAt; rw [h.c9]

/-- Added: the hasher has taken M in from the state s. -/
def Added (w : World) (hb : Nat) (s : S8) (M : List UInt8) (n : Int) (e : Ending) (w' : World) : Prop :=
  e = .returned (.pointer (some ⟨hb, 0, none⟩)) ∧ ∃ v', HB w' hb (blk s M (M.length / 64)) true v' n ∧ Rd w' v' (M.drop (64 * (M.length / 64))) ∧ (∀ k, v'.ownBlock = some k → k ≠ hb) ∧ Fr (fun k => k = hb) w w'

/-- A literal of two byte slices. -/
theorem LL.two {w : World} {v x : Value} {m l : List UInt8} (hv : Rd w v m) (hx : Rd w x l) (e : Nat) : LL (w.alloc (.cells #[v, x] e)) (.slice (some ⟨w.heap.size, 0, none⟩) 2 2) [m, l] := by
  have f := (Fr.refl F0 w).alloc (.cells #[v, x] e)
  refine ⟨[v, x], ⟨rfl, _, 2, rfl, Nat.le_refl _, by simp [maxLen], (fun h => by cases h), fun _ => ⟨w.heap.size, 0, rfl, by simp, fun j hj => ?_⟩⟩, fun i l' hl' => ?_⟩
  · rw [Nat.zero_add, cell_at (heap_alloc_last w _)]
    match j, hj with
    | 0, _ => rfl
    | 1, _ => rfl
  · match i, hl' with
    | 0, h => obtain rfl : m = l' := by simpa using h
              exact ⟨v, rfl, hv.keep0 f⟩
    | 1, h => obtain rfl : l = l' := by simpa using h
              exact ⟨x, rfl, hx.keep0 f⟩
    | i + 2, h => simp at h

set_option maxRecDepth 100000 in
set_option maxHeartbeats 3200000 in
theorem add_c (hb : Nat) (s : S8) (on : Bool) (v x : Value) (n : Int) (m l : List UInt8) (w : World) (h : HB w hb s on v n) (hs : s.ok) (hv : Rd w v m) (hx : Rd w x l) (bv : ∀ k, rblk v = some k → k ≠ hb) (bx : ∀ k, rblk x = some k → k ≠ hb)
    (hl : m.length + l.length ≤ 70368744177664) (n0 : 0 ≤ n) (n1 : n + l.length ≤ 70368744177664) :
    Calls Try.prog 81 #[.pointer (some ⟨hb, 0, none⟩), x] w fun e w' => Added w hb (begun on s) (m ++ l) (n + l.length) e w' := by
  obtain ⟨ax, cx, rfl, _⟩ := hx.form
  obtain ⟨av, cv, rfl, _⟩ := hv.form
  have H := hid h
  have HS := hid hs
  have HV := hid hv
  have HX := hid hx
  have BV := hid bv
  have BX := hid bx
  have HL := hid hl
  clear h hs hv hx bv bx hl
  go_enter Try.func81, Try.ntmps81
  go_wp2_with fail
  refine (start_c _ s on _ n _ H.out).mono ?_
  rintro e w1 ⟨rfl, h1, f1⟩
  have c10 := h1.c10
  have z10 := h1.fz 10
  have e10 : IntKind.i64.wrap (n + (l.length : Int)) = n + (l.length : Int) := IntWalk.i64_in _ (by omega)
  have h2 := h1.set10 (n + (l.length : Int))
  have f2 := f1.setCell (p := ⟨hb, 10, none⟩) (fun _ => rfl) (.int .i64 (n + (l.length : Int)))
  have H2 := hid h2
  have V2 := hid (HV.out.keep' f2 BV.out)
  have X2 := hid (HX.out.keep' f2 BX.out)
  have F2 := hid f2
  have c9 := h2.c9
  clear h1 h2 f2 f1
  have hsz : (w1.setCell ⟨hb, 10, none⟩ (.int .i64 (n + (l.length : Int)))).heap.size = w1.heap.size := by simp
  have l2 := LL.two V2.out X2.out 25
  have f3 := (Fr.refl F0 (w1.setCell ⟨hb, 10, none⟩ (.int .i64 (n + (l.length : Int))))).alloc (.cells #[.slice av m.length cv, .slice ax l.length cx] 25)
  rw [hsz] at l2
  have L2 := hid l2
  have F3 := hid f3
  clear l2 f3 hsz
  go_wp2_with fail
  refine (concat_c _ [m, l] _ L2.out (by simp only [List.flatten_cons, List.flatten_nil, List.append_nil, List.length_append]; have := HL.out; omega)).mono ?_
  rintro e w4 ⟨r, rfl, h4, f4, n4⟩
  rw [show [m, l].flatten = m ++ l from by simp] at h4
  have g4 := Fr.trans F3.out f4 (fun _ _ e => e)
  have k9 := (H2.out.keep g4 (fun e => e)).c9
  have z9 := (H2.out.keep g4 (fun e => e)).fz 9
  have h5 := (H2.out.keep g4 (fun e => e)).set9 r
  have hn : ∀ k, r.ownBlock = some k → k ≠ hb := fun k hk e => by have := n4 k hk; have := H2.out.lt; subst e; simp at this; simp at *; omega
  have f5 := (Fr.trans F2.out g4 (fun _ _ e => e.elim)).setCell (p := ⟨hb, 9, none⟩) (fun _ => rfl) r
  have R5 := hid (h4.rd.keep ((Fr.refl (fun k => k = hb) w4).setCell (p := ⟨hb, 9, none⟩) (fun _ => rfl) r) hn)
  obtain ⟨ar, mr, cr, rfl⟩ := h4.form
  have H5 := hid h5
  have F5 := hid f5
  have N5 := hid hn
  have HML := hid (show (m ++ l).length ≤ 70368744177664 from by have := HL.out; simp; omega)
  generalize hM : m ++ l = M at *
  generalize hN : n + (l.length : Int) = N at *
  have HMe := hid hM
  have HNe := hid hN
  clear hM hN
  have hq : 64 * (M.length / 64) ≤ M.length := Nat.mul_div_le ..
  clear h4 f4 n4 g4 h5 f5 hn H2 V2 X2 L2 F2 F3 H HV HX BV BX c9 c10 z10 e10 HL
  go_wp2_with fail
  obtain rfl := R5.out.len
  go_loopw [] (fun wr => ∃ k : Nat, k ≤ M.length / 64 ∧ ∃ a c L, Hid (HB wr hb (blk (begun on s) M k) true (.slice a L c) N ∧ Rd wr (.slice a L c) (M.drop (64 * k)) ∧ Fr (fun k => k = hb) w wr ∧ ∀ k', Value.ownBlock (.slice a L c) = some k' → k' ≠ hb)) (fun wr => lenAt wr hb)
  case atStart => exact ⟨0, Nat.zero_le _, _, _, _, hid ⟨H5.out, R5.out, F5.out, N5.out⟩⟩
  case round =>
    clear H5 F5 N5 R5 k9 z9
    obtain ⟨k, hk, sa, c, L, H⟩ := hrel
    have hdl : (M.drop (64 * k)).length = M.length - 64 * k := List.length_drop ..
    have hLD := H.out.2.1.len
    have c9 := H.out.1.c9
    obtain ⟨D, HD⟩ : ∃ D, Hid (M.drop (64 * k) = D) := ⟨_, hid rfl⟩
    obtain ⟨S, HSS⟩ : ∃ S, Hid (blk (begun on s) M k = S) := ⟨_, hid rfl⟩
    have hS2 : stepS (blk (begun on s) M k) ((M.drop (64 * k)).take 64) = blk (begun on s) M (k + 1) := rfl
    obtain ⟨S2, HSS2⟩ : ∃ S2, Hid (blk (begun on s) M (k + 1) = S2) := ⟨_, hid rfl⟩
    have HSok := hid (show (blk (begun on s) M k).ok from blk_ok (begun_ok HS.out on) M k)
    rw [HSS.out] at H hS2 HSok
    rw [HD.out] at H hS2 hLD hdl
    rw [HSS2.out] at hS2
    have HS2 := hid hS2
    have HDL := hid hLD.symm
    have HLk := hid (hLD.trans hdl)
    clear hS2 hLD hdl
    by_cases h64 : 64 ≤ L
    · have h64' : (64 : Int) ≤ (L : Int) := by omega
      have H0 := H
      obtain ⟨a8, m8, c8, hrun8, H8⟩ := run_slB (P := Try.prog) 25 5 Try.underlying25 infoB (.slice sa L c) D H.out.2.1 none (some (.int .i64 64)) 0 64 (.inl ⟨rfl, rfl⟩) (.inr rfl) (by omega) (by rw [HDL.out]; exact h64)
      have HR := hid (show Rd wr (.slice a8 m8 c8) (D.take 64) from H8.out.1)
      have HN8 := hid (show ∀ k', Value.ownBlock (.slice a8 m8 c8) = some k' → k' ≠ hb from fun k' hk' => H.out.2.2.2 k' (H8.out.2.2.1 k' hk'))
      have HL8 := hid (show (D.take 64).length = 64 from by rw [List.length_take, HDL.out]; omega)
      clear H8
      go_wp2_with fail
      refine wp_region_inv (fun d a W => ∃ x33 x34 x35 x36 x37 x38 x39 x40 x41 x42 x43 x44 x45 x46, a = { tmps := #[.pointer (some ⟨hb, 0, none⟩), .slice ax l.length cx, undef, undef, .pointer none, .pointer (some ⟨hb, 0, none⟩), .bool false, .pointer (some ⟨hb, 0, none⟩), .tuple #[], .pointer (some ⟨hb, 0, none⟩), .pointer (some ⟨hb, 0, none⟩), .pointer (some ⟨hb, 10, none⟩), .int .i64 n, .slice ax l.length cx, .int .i64 l.length, .int .i64 N, .pointer (some ⟨hb, 0, none⟩), .pointer (some ⟨hb, 10, none⟩), .pointer (some ⟨hb, 0, none⟩), .pointer (some ⟨hb, 0, none⟩), .pointer (some ⟨hb, 0, none⟩), .pointer (some ⟨hb, 9, none⟩), .slice av m.length cv, .slice ax l.length cx, .slice (some ⟨w1.heap.size, 0, none⟩) 2 2, .slice ar M.length cr, .pointer (some ⟨hb, 0, none⟩), .pointer (some ⟨hb, 9, none⟩), .pointer (some ⟨hb, 0, none⟩), .pointer (some ⟨hb, 0, none⟩), .pointer (some ⟨hb, 9, none⟩), .slice sa L c, .int .i64 L, x33, x34, x35, x36, x37, x38, x39, x40, x41, x42, x43, x44, x45, x46, u47, u48, u49, u50, u51, u52, u53, u54, undef], defers := [] } ∧ Hid (HB W hb (bif d 13 then S2 else S) true (.slice sa L c) N ∧ Fr (fun k => k = hb) wr W ∧ (d 13 = true → d 4 = true) ∧ (d 13 = true → d 10 = true) ∧ (d 0 = true → x34 = .pointer (some ⟨hb, 0, none⟩)) ∧ (d 1 = true → x35 = .pointer (some ⟨hb, 0, none⟩)) ∧ (d 2 = true → x36 = .pointer (some ⟨hb, 0, none⟩)) ∧ (d 3 = true → x37 = .pointer (some ⟨hb, 0, none⟩)) ∧ (d 4 = true → x38 = .agg S.arr) ∧ (d 5 = true → x39 = .pointer (some ⟨hb, 0, none⟩)) ∧ (d 6 = true → x40 = .pointer (some ⟨hb, 0, none⟩)) ∧ (d 7 = true → x41 = .pointer (some ⟨hb, 9, none⟩)) ∧ (d 8 = true → x42 = .slice sa L c) ∧ (d 9 = true → x43 = .slice a8 m8 c8) ∧ (d 10 = true → x44 = .agg S2.arr) ∧ (d 11 = true → x45 = .pointer (some ⟨hb, 0, none⟩)) ∧ (d 12 = true → x46 = .pointer (some ⟨hb, 0, none⟩)))) (by kernel_rfl) (by kernel_rfl) ?h0 ?hstep ?hdone
      case h0 => exact ⟨_, _, _, _, _, _, _, _, _, _, _, _, _, _, rfl, hid ⟨H.out.1, (Fr.refl _ _).drew, (fun e => by cases e), (fun e => by cases e), (fun e => by cases e), (fun e => by cases e), (fun e => by cases e), (fun e => by cases e), (fun e => by cases e), (fun e => by cases e), (fun e => by cases e), (fun e => by cases e), (fun e => by cases e), (fun e => by cases e), (fun e => by cases e), (fun e => by cases e), (fun e => by cases e)⟩⟩
      case hstep =>
        refine invSteps_cons ?_ (invSteps_cons ?_ (invSteps_cons ?_ (invSteps_cons ?_ (invSteps_cons ?_ (invSteps_cons ?_ (invSteps_cons ?_ (invSteps_cons ?_ (invSteps_cons ?_ (invSteps_cons ?_ (invSteps_cons ?_ (invSteps_cons ?_ (invSteps_cons ?_ (invSteps_cons ?_ trivial)))))))))))))
        · rintro d a W h0 hn ⟨x33, x34, x35, x36, x37, x38, x39, x40, x41, x42, x43, x44, x45, x46, rfl, H⟩
          obtain ⟨hB, hF, l4, l10, q0, q1, q2, q3, q4, q5, q6, q7, q8, q9, q10, q11, q12⟩ := H.out
          have HK := hid H.out
          clear H hB hF l4 l10 q0 q1 q2 q3 q4 q5 q6 q7 q8 q9 q10 q11 q12
          go_wp2_with fail
          obtain ⟨hB, hF, l4, l10, q0, q1, q2, q3, q4, q5, q6, q7, q8, q9, q10, q11, q12⟩ := HK.out
          first | exact ⟨_, _, _, _, _, _, _, _, _, _, _, _, _, _, rfl, hid ⟨hB, hF, l4, l10, (fun _ => rfl), q1, q2, q3, q4, q5, q6, q7, q8, q9, q10, q11, q12⟩⟩ | exact ⟨_, _, _, _, _, _, _, _, _, _, _, _, _, _, ⟨rfl, rfl, rfl, rfl, rfl, rfl, rfl, rfl, rfl, rfl, rfl, rfl, rfl, rfl⟩, hid ⟨hB, hF, l4, l10, (fun _ => rfl), q1, q2, q3, q4, q5, q6, q7, q8, q9, q10, q11, q12⟩⟩
        · rintro d a W h0 hn ⟨x33, x34, x35, x36, x37, x38, x39, x40, x41, x42, x43, x44, x45, x46, rfl, H⟩
          obtain ⟨hB, hF, l4, l10, q0, q1, q2, q3, q4, q5, q6, q7, q8, q9, q10, q11, q12⟩ := H.out
          have HK := hid H.out
          clear H hB hF l4 l10 q0 q1 q2 q3 q4 q5 q6 q7 q8 q9 q10 q11 q12
          go_wp2_with fail
          obtain ⟨hB, hF, l4, l10, q0, q1, q2, q3, q4, q5, q6, q7, q8, q9, q10, q11, q12⟩ := HK.out
          first | exact ⟨_, _, _, _, _, _, _, _, _, _, _, _, _, _, rfl, hid ⟨hB, hF, l4, l10, q0, (fun _ => rfl), q2, q3, q4, q5, q6, q7, q8, q9, q10, q11, q12⟩⟩ | exact ⟨_, _, _, _, _, _, _, _, _, _, _, _, _, _, ⟨rfl, rfl, rfl, rfl, rfl, rfl, rfl, rfl, rfl, rfl, rfl, rfl, rfl, rfl⟩, hid ⟨hB, hF, l4, l10, q0, (fun _ => rfl), q2, q3, q4, q5, q6, q7, q8, q9, q10, q11, q12⟩⟩
        · rintro d a W h0 hn ⟨x33, x34, x35, x36, x37, x38, x39, x40, x41, x42, x43, x44, x45, x46, rfl, H⟩
          obtain ⟨hB, hF, l4, l10, q0, q1, q2, q3, q4, q5, q6, q7, q8, q9, q10, q11, q12⟩ := H.out
          obtain rfl := q1 (hn 1 (by decide))
          have HK := hid H.out
          clear H hB hF l4 l10 q0 q2 q3 q4 q5 q6 q7 q8 q9 q10 q11 q12
          go_wp2_with fail
          obtain ⟨hB, hF, l4, l10, q0, q1, q2, q3, q4, q5, q6, q7, q8, q9, q10, q11, q12⟩ := HK.out
          first | exact ⟨_, _, _, _, _, _, _, _, _, _, _, _, _, _, rfl, hid ⟨hB, hF, l4, l10, q0, (fun _ => rfl), (fun _ => rfl), q3, q4, q5, q6, q7, q8, q9, q10, q11, q12⟩⟩ | exact ⟨_, _, _, _, _, _, _, _, _, _, _, _, _, _, ⟨rfl, rfl, rfl, rfl, rfl, rfl, rfl, rfl, rfl, rfl, rfl, rfl, rfl, rfl⟩, hid ⟨hB, hF, l4, l10, q0, (fun _ => rfl), (fun _ => rfl), q3, q4, q5, q6, q7, q8, q9, q10, q11, q12⟩⟩
        · rintro d a W h0 hn ⟨x33, x34, x35, x36, x37, x38, x39, x40, x41, x42, x43, x44, x45, x46, rfl, H⟩
          obtain ⟨hB, hF, l4, l10, q0, q1, q2, q3, q4, q5, q6, q7, q8, q9, q10, q11, q12⟩ := H.out
          obtain rfl := q2 (hn 2 (by decide))
          have HK := hid H.out
          clear H hB hF l4 l10 q0 q1 q3 q4 q5 q6 q7 q8 q9 q10 q11 q12
          go_wp2_with fail
          obtain ⟨hB, hF, l4, l10, q0, q1, q2, q3, q4, q5, q6, q7, q8, q9, q10, q11, q12⟩ := HK.out
          first | exact ⟨_, _, _, _, _, _, _, _, _, _, _, _, _, _, rfl, hid ⟨hB, hF, l4, l10, q0, q1, (fun _ => rfl), (fun _ => rfl), q4, q5, q6, q7, q8, q9, q10, q11, q12⟩⟩ | exact ⟨_, _, _, _, _, _, _, _, _, _, _, _, _, _, ⟨rfl, rfl, rfl, rfl, rfl, rfl, rfl, rfl, rfl, rfl, rfl, rfl, rfl, rfl⟩, hid ⟨hB, hF, l4, l10, q0, q1, (fun _ => rfl), (fun _ => rfl), q4, q5, q6, q7, q8, q9, q10, q11, q12⟩⟩
        · rintro d a W h0 hn ⟨x33, x34, x35, x36, x37, x38, x39, x40, x41, x42, x43, x44, x45, x46, rfl, H⟩
          obtain ⟨hB, hF, l4, l10, q0, q1, q2, q3, q4, q5, q6, q7, q8, q9, q10, q11, q12⟩ := H.out
          obtain rfl := q3 (hn 3 (by decide))
          have h13 : d 13 = false := by cases e : d 13 with | false => rfl | true => exact absurd (l4 e) (by rw [h0]; simp)
          rw [h13] at hB
          have HBB := hid hB
          have HK := hid H.out
          clear H hB hF l4 l10 q0 q1 q2 q4 q5 q6 q7 q8 q9 q10 q11 q12
          go_wp2_with (refine wpList_loadS rfl (.tmp 37) rfl HBB.out rfl ?_)
          obtain ⟨hB, hF, l4, l10, q0, q1, q2, q3, q4, q5, q6, q7, q8, q9, q10, q11, q12⟩ := HK.out
          first | exact ⟨_, _, _, _, _, _, _, _, _, _, _, _, _, _, rfl, hid ⟨hB, hF, fun _ => rfl, l10, q0, q1, q2, (fun _ => rfl), (fun _ => rfl), q5, q6, q7, q8, q9, q10, q11, q12⟩⟩ | exact ⟨_, _, _, _, _, _, _, _, _, _, _, _, _, _, ⟨rfl, rfl, rfl, rfl, rfl, rfl, rfl, rfl, rfl, rfl, rfl, rfl, rfl, rfl⟩, hid ⟨hB, hF, fun _ => rfl, l10, q0, q1, q2, (fun _ => rfl), (fun _ => rfl), q5, q6, q7, q8, q9, q10, q11, q12⟩⟩
        · rintro d a W h0 hn ⟨x33, x34, x35, x36, x37, x38, x39, x40, x41, x42, x43, x44, x45, x46, rfl, H⟩
          obtain ⟨hB, hF, l4, l10, q0, q1, q2, q3, q4, q5, q6, q7, q8, q9, q10, q11, q12⟩ := H.out
          have HK := hid H.out
          clear H hB hF l4 l10 q0 q1 q2 q3 q4 q5 q6 q7 q8 q9 q10 q11 q12
          go_wp2_with fail
          obtain ⟨hB, hF, l4, l10, q0, q1, q2, q3, q4, q5, q6, q7, q8, q9, q10, q11, q12⟩ := HK.out
          first | exact ⟨_, _, _, _, _, _, _, _, _, _, _, _, _, _, rfl, hid ⟨hB, hF, l4, l10, q0, q1, q2, q3, q4, (fun _ => rfl), q6, q7, q8, q9, q10, q11, q12⟩⟩ | exact ⟨_, _, _, _, _, _, _, _, _, _, _, _, _, _, ⟨rfl, rfl, rfl, rfl, rfl, rfl, rfl, rfl, rfl, rfl, rfl, rfl, rfl, rfl⟩, hid ⟨hB, hF, l4, l10, q0, q1, q2, q3, q4, (fun _ => rfl), q6, q7, q8, q9, q10, q11, q12⟩⟩
        · rintro d a W h0 hn ⟨x33, x34, x35, x36, x37, x38, x39, x40, x41, x42, x43, x44, x45, x46, rfl, H⟩
          obtain ⟨hB, hF, l4, l10, q0, q1, q2, q3, q4, q5, q6, q7, q8, q9, q10, q11, q12⟩ := H.out
          obtain rfl := q5 (hn 5 (by decide))
          have HK := hid H.out
          clear H hB hF l4 l10 q0 q1 q2 q3 q4 q6 q7 q8 q9 q10 q11 q12
          go_wp2_with fail
          obtain ⟨hB, hF, l4, l10, q0, q1, q2, q3, q4, q5, q6, q7, q8, q9, q10, q11, q12⟩ := HK.out
          first | exact ⟨_, _, _, _, _, _, _, _, _, _, _, _, _, _, rfl, hid ⟨hB, hF, l4, l10, q0, q1, q2, q3, q4, (fun _ => rfl), (fun _ => rfl), q7, q8, q9, q10, q11, q12⟩⟩ | exact ⟨_, _, _, _, _, _, _, _, _, _, _, _, _, _, ⟨rfl, rfl, rfl, rfl, rfl, rfl, rfl, rfl, rfl, rfl, rfl, rfl, rfl, rfl⟩, hid ⟨hB, hF, l4, l10, q0, q1, q2, q3, q4, (fun _ => rfl), (fun _ => rfl), q7, q8, q9, q10, q11, q12⟩⟩
        · rintro d a W h0 hn ⟨x33, x34, x35, x36, x37, x38, x39, x40, x41, x42, x43, x44, x45, x46, rfl, H⟩
          obtain ⟨hB, hF, l4, l10, q0, q1, q2, q3, q4, q5, q6, q7, q8, q9, q10, q11, q12⟩ := H.out
          obtain rfl := q6 (hn 6 (by decide))
          have HK := hid H.out
          clear H hB hF l4 l10 q0 q1 q2 q3 q4 q5 q7 q8 q9 q10 q11 q12
          go_wp2_with fail
          obtain ⟨hB, hF, l4, l10, q0, q1, q2, q3, q4, q5, q6, q7, q8, q9, q10, q11, q12⟩ := HK.out
          first | exact ⟨_, _, _, _, _, _, _, _, _, _, _, _, _, _, rfl, hid ⟨hB, hF, l4, l10, q0, q1, q2, q3, q4, q5, (fun _ => rfl), (fun _ => rfl), q8, q9, q10, q11, q12⟩⟩ | exact ⟨_, _, _, _, _, _, _, _, _, _, _, _, _, _, ⟨rfl, rfl, rfl, rfl, rfl, rfl, rfl, rfl, rfl, rfl, rfl, rfl, rfl, rfl⟩, hid ⟨hB, hF, l4, l10, q0, q1, q2, q3, q4, q5, (fun _ => rfl), (fun _ => rfl), q8, q9, q10, q11, q12⟩⟩
        · rintro d a W h0 hn ⟨x33, x34, x35, x36, x37, x38, x39, x40, x41, x42, x43, x44, x45, x46, rfl, H⟩
          obtain ⟨hB, hF, l4, l10, q0, q1, q2, q3, q4, q5, q6, q7, q8, q9, q10, q11, q12⟩ := H.out
          obtain rfl := q7 (hn 7 (by decide))
          have hc := hB.c9
          have HK := hid H.out
          clear H hB hF l4 l10 q0 q1 q2 q3 q4 q5 q6 q8 q9 q10 q11 q12
          go_wp2_with fail
          obtain ⟨hB, hF, l4, l10, q0, q1, q2, q3, q4, q5, q6, q7, q8, q9, q10, q11, q12⟩ := HK.out
          first | exact ⟨_, _, _, _, _, _, _, _, _, _, _, _, _, _, rfl, hid ⟨hB, hF, l4, l10, q0, q1, q2, q3, q4, q5, q6, (fun _ => rfl), (fun _ => rfl), q9, q10, q11, q12⟩⟩ | exact ⟨_, _, _, _, _, _, _, _, _, _, _, _, _, _, ⟨rfl, rfl, rfl, rfl, rfl, rfl, rfl, rfl, rfl, rfl, rfl, rfl, rfl, rfl⟩, hid ⟨hB, hF, l4, l10, q0, q1, q2, q3, q4, q5, q6, (fun _ => rfl), (fun _ => rfl), q9, q10, q11, q12⟩⟩
        · rintro d a W h0 hn ⟨x33, x34, x35, x36, x37, x38, x39, x40, x41, x42, x43, x44, x45, x46, rfl, H⟩
          obtain ⟨hB, hF, l4, l10, q0, q1, q2, q3, q4, q5, q6, q7, q8, q9, q10, q11, q12⟩ := H.out
          obtain rfl := q8 (hn 8 (by decide))
          have HK := hid H.out
          clear H hB hF l4 l10 q0 q1 q2 q3 q4 q5 q6 q7 q9 q10 q11 q12
          go_wp2_with fail
          obtain ⟨hB, hF, l4, l10, q0, q1, q2, q3, q4, q5, q6, q7, q8, q9, q10, q11, q12⟩ := HK.out
          first | exact ⟨_, _, _, _, _, _, _, _, _, _, _, _, _, _, rfl, hid ⟨hB, hF, l4, l10, q0, q1, q2, q3, q4, q5, q6, q7, (fun _ => rfl), (fun _ => rfl), q10, q11, q12⟩⟩ | exact ⟨_, _, _, _, _, _, _, _, _, _, _, _, _, _, ⟨rfl, rfl, rfl, rfl, rfl, rfl, rfl, rfl, rfl, rfl, rfl, rfl, rfl, rfl⟩, hid ⟨hB, hF, l4, l10, q0, q1, q2, q3, q4, q5, q6, q7, (fun _ => rfl), (fun _ => rfl), q10, q11, q12⟩⟩
        · rintro d a W h0 hn ⟨x33, x34, x35, x36, x37, x38, x39, x40, x41, x42, x43, x44, x45, x46, rfl, H⟩
          obtain ⟨hB, hF, l4, l10, q0, q1, q2, q3, q4, q5, q6, q7, q8, q9, q10, q11, q12⟩ := H.out
          obtain rfl := q4 (hn 4 (by decide))
          obtain rfl := q9 (hn 9 (by decide))
          have h13 : d 13 = false := by cases e : d 13 with | false => rfl | true => exact absurd (l10 e) (by rw [h0]; simp)
          have HK := hid H.out
          have HR8 := hid (HR.out.keep hF HN8.out)
          clear H hB hF l4 l10 q0 q1 q2 q3 q4 q5 q6 q7 q8 q9 q10 q11 q12
          go_wp2_with fail
          refine (step_c S _ _ _ HR8.out HL8.out HSok.out).mono ?_
          rintro e w5 ⟨rfl, f5⟩
          have F5 := hid f5
          clear f5
          rw [HS2.out]
          go_wp2_with fail
          obtain ⟨hB, hF, l4, l10, q0, q1, q2, q3, q4, q5, q6, q7, q8, q9, q10, q11, q12⟩ := HK.out
          first | exact ⟨_, _, _, _, _, _, _, _, _, _, _, _, _, _, rfl, hid ⟨hB.keep F5.out (fun e => e), hF.trans F5.out (fun _ _ e => e.elim), l4, fun _ => rfl, q0, q1, q2, q3, (fun _ => rfl), q5, q6, q7, q8, (fun _ => rfl), (fun _ => rfl), q11, q12⟩⟩ | exact ⟨_, _, _, _, _, _, _, _, _, _, _, _, _, _, ⟨rfl, rfl, rfl, rfl, rfl, rfl, rfl, rfl, rfl, rfl, rfl, rfl, rfl, rfl⟩, hid ⟨hB.keep F5.out (fun e => e), hF.trans F5.out (fun _ _ e => e.elim), l4, fun _ => rfl, q0, q1, q2, q3, (fun _ => rfl), q5, q6, q7, q8, (fun _ => rfl), (fun _ => rfl), q11, q12⟩⟩
        · rintro d a W h0 hn ⟨x33, x34, x35, x36, x37, x38, x39, x40, x41, x42, x43, x44, x45, x46, rfl, H⟩
          obtain ⟨hB, hF, l4, l10, q0, q1, q2, q3, q4, q5, q6, q7, q8, q9, q10, q11, q12⟩ := H.out
          obtain rfl := q0 (hn 0 (by decide))
          have HK := hid H.out
          clear H hB hF l4 l10 q1 q2 q3 q4 q5 q6 q7 q8 q9 q10 q11 q12
          go_wp2_with fail
          obtain ⟨hB, hF, l4, l10, q0, q1, q2, q3, q4, q5, q6, q7, q8, q9, q10, q11, q12⟩ := HK.out
          first | exact ⟨_, _, _, _, _, _, _, _, _, _, _, _, _, _, rfl, hid ⟨hB, hF, l4, l10, (fun _ => rfl), q1, q2, q3, q4, q5, q6, q7, q8, q9, q10, (fun _ => rfl), q12⟩⟩ | exact ⟨_, _, _, _, _, _, _, _, _, _, _, _, _, _, ⟨rfl, rfl, rfl, rfl, rfl, rfl, rfl, rfl, rfl, rfl, rfl, rfl, rfl, rfl⟩, hid ⟨hB, hF, l4, l10, (fun _ => rfl), q1, q2, q3, q4, q5, q6, q7, q8, q9, q10, (fun _ => rfl), q12⟩⟩
        · rintro d a W h0 hn ⟨x33, x34, x35, x36, x37, x38, x39, x40, x41, x42, x43, x44, x45, x46, rfl, H⟩
          obtain ⟨hB, hF, l4, l10, q0, q1, q2, q3, q4, q5, q6, q7, q8, q9, q10, q11, q12⟩ := H.out
          obtain rfl := q11 (hn 11 (by decide))
          have HK := hid H.out
          clear H hB hF l4 l10 q0 q1 q2 q3 q4 q5 q6 q7 q8 q9 q10 q12
          go_wp2_with fail
          obtain ⟨hB, hF, l4, l10, q0, q1, q2, q3, q4, q5, q6, q7, q8, q9, q10, q11, q12⟩ := HK.out
          first | exact ⟨_, _, _, _, _, _, _, _, _, _, _, _, _, _, rfl, hid ⟨hB, hF, l4, l10, q0, q1, q2, q3, q4, q5, q6, q7, q8, q9, q10, (fun _ => rfl), (fun _ => rfl)⟩⟩ | exact ⟨_, _, _, _, _, _, _, _, _, _, _, _, _, _, ⟨rfl, rfl, rfl, rfl, rfl, rfl, rfl, rfl, rfl, rfl, rfl, rfl, rfl, rfl⟩, hid ⟨hB, hF, l4, l10, q0, q1, q2, q3, q4, q5, q6, q7, q8, q9, q10, (fun _ => rfl), (fun _ => rfl)⟩⟩
        · rintro d a W h0 hn ⟨x33, x34, x35, x36, x37, x38, x39, x40, x41, x42, x43, x44, x45, x46, rfl, H⟩
          obtain ⟨hB, hF, l4, l10, q0, q1, q2, q3, q4, q5, q6, q7, q8, q9, q10, q11, q12⟩ := H.out
          obtain rfl := q12 (hn 12 (by decide))
          obtain rfl := q10 (hn 10 (by decide))
          have h13 : d 13 = false := h0
          rw [h13] at hB
          have HBB := hid hB
          have HK := hid H.out
          have n4 := hn 4 (by decide)
          have n10 := hn 10 (by decide)
          clear H hB hF l4 l10 q0 q1 q2 q3 q4 q5 q6 q7 q8 q9 q10 q11 q12
          go_wp2_with (refine wpList_storeS rfl (.tmp 46) (.tmp 44) rfl HBB.out S2 rfl rfl ?_)
          intro w5 h5 f5
          have H5 := hid h5
          have F5 := hid f5
          clear h5 f5
          go_wp2_with fail
          obtain ⟨hB, hF, l4, l10, q0, q1, q2, q3, q4, q5, q6, q7, q8, q9, q10, q11, q12⟩ := HK.out
          first | exact ⟨_, _, _, _, _, _, _, _, _, _, _, _, _, _, rfl, hid ⟨H5.out, hF.trans F5.out (fun _ _ e => e), fun _ => n4, fun _ => n10, q0, q1, q2, q3, q4, q5, q6, q7, q8, q9, (fun _ => rfl), q11, (fun _ => rfl)⟩⟩ | exact ⟨_, _, _, _, _, _, _, _, _, _, _, _, _, _, ⟨rfl, rfl, rfl, rfl, rfl, rfl, rfl, rfl, rfl, rfl, rfl, rfl, rfl, rfl⟩, hid ⟨H5.out, hF.trans F5.out (fun _ _ e => e), fun _ => n4, fun _ => n10, q0, q1, q2, q3, q4, q5, q6, q7, q8, q9, (fun _ => rfl), q11, (fun _ => rfl)⟩⟩
      case hdone =>
        rintro d a W hd ⟨x33, x34, x35, x36, x37, x38, x39, x40, x41, x42, x43, x44, x45, x46, rfl, H⟩
        obtain ⟨hB, hF, l4, l10, q0, q1, q2, q3, q4, q5, q6, q7, q8, q9, q10, q11, q12⟩ := H.out
        obtain rfl := q0 (hd 0 (by decide))
        obtain rfl := q1 (hd 1 (by decide))
        obtain rfl := q2 (hd 2 (by decide))
        obtain rfl := q3 (hd 3 (by decide))
        obtain rfl := q4 (hd 4 (by decide))
        obtain rfl := q5 (hd 5 (by decide))
        obtain rfl := q6 (hd 6 (by decide))
        obtain rfl := q7 (hd 7 (by decide))
        obtain rfl := q8 (hd 8 (by decide))
        obtain rfl := q9 (hd 9 (by decide))
        obtain rfl := q10 (hd 10 (by decide))
        obtain rfl := q11 (hd 11 (by decide))
        obtain rfl := q12 (hd 12 (by decide))
        rw [hd 13 (by decide)] at hB
        have HB2 := hid hB
        have HF2 := hid hF
        have r9 := H0.out.2.1.keep hF H0.out.2.2.2
        obtain ⟨a9, m9, c9x, hrun9, H9⟩ := run_slB (P := Try.prog) 25 5 Try.underlying25 infoB (.slice sa L c) D r9 (some (.int .i64 64)) none 64 L (.inr rfl) (.inl ⟨rfl, HDL.out.symm⟩) h64 (by rw [HDL.out]; exact Nat.le_refl _)
        have k9 := hB.c9
        have z9 := hB.fz 9
        have w9 := hB.set9 (.slice a9 m9 c9x)
        have W9 := hid w9
        have HN9 := hid (show ∀ k', Value.ownBlock (.slice a9 m9 c9x) = some k' → k' ≠ hb from fun k' hk' => H0.out.2.2.2 k' (H9.out.2.2.1 k' hk'))
        have R9 := hid (H9.out.1.keep ((Fr.refl (fun k => k = hb) W).setCell (p := ⟨hb, 9, none⟩) (fun _ => rfl) (.slice a9 m9 c9x)) HN9.out)
        have F9 := hid (((H0.out.2.2.1.trans hF (fun _ _ e => e))).setCell (p := ⟨hb, 9, none⟩) (fun _ => rfl) (.slice a9 m9 c9x))
        have HM9 := hid H9.out.2.1
        clear H hB hF l4 l10 q0 q1 q2 q3 q4 q5 q6 q7 q8 q9 q10 q11 q12 hd r9 w9 H9
        go_wp2_with fail
        have hk2 : k + 1 ≤ M.length / 64 := by have := HLk.out; omega
        have hdd : M.drop (64 * (k + 1)) = (D.drop 64).take (L - 64) := by rw [List.take_of_length_le (by rw [List.length_drop, HDL.out]; exact Nat.le_refl _), ← HD.out, List.drop_drop]; rfl
        refine ⟨⟨k + 1, hk2, _, _, _, hid ⟨HSS2.out.symm ▸ W9.out, hdd ▸ R9.out, F9.out, HN9.out⟩⟩, ?_⟩
        rw [HB.lenAt W9.out, HB.lenAt H0.out.1, HM9.out]
        omega
    · have h64' : ¬ (64 : Int) ≤ (L : Int) := by omega
      have hk2 : k = M.length / 64 := by have := HLk.out; omega
      have HA := hid (show ∃ v', HB wr hb (blk (begun on s) M (M.length / 64)) true v' N ∧ Rd wr v' (M.drop (64 * (M.length / 64))) ∧ (∀ k, v'.ownBlock = some k → k ≠ hb) ∧ Fr (fun k => k = hb) w wr from
        ⟨.slice sa L c, by rw [← hk2, HSS.out]; exact H.out.1, by rw [← hk2, HD.out]; exact H.out.2.1, H.out.2.2.2, H.out.2.2.1⟩)
      go_wp2_with fail
      go_ret
      exact ⟨rfl, by rw [HMe.out, HNe.out]; exact HA.out⟩

end Go.Proofs.Ytfalaopljodmnaa
