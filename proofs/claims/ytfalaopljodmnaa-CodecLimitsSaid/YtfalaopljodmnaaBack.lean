/- linnetlaw3.CodecBack: the walk. -/
import Derived.Test.YtfalaopljodmnaaWrites
import Derived.Deep.RegionHeld3
namespace Go.Proofs.Ytfalaopljodmnaa
open Go.RowKit

theorem rnum_enc (n : Nat) (r : List UInt8) (h : n ≤ 2147483647) : rnum (leB 4 n ++ r) 0 = (n, r, 0) := by
  have hl : (leB 4 n).length = 4 := leB_length 4 n
  have ht : (leB 4 n ++ r).take 4 = leB 4 n := List.take_left' hl
  have hd : (leB 4 n ++ r).drop 4 = r := List.drop_left' hl
  have hv : leV (leB 4 n) = n := by rw [leV_leB]; omega
  unfold rnum
  rw [if_neg (by simp), if_neg (by rw [List.length_append, hl]; omega), ht, hv, if_neg (by omega), hd]

theorem rword_enc (n : Nat) (r : List UInt8) (h : n < 18446744073709551616) : rword (leB 8 n ++ r) 0 = (n, r, 0) := by
  have hl : (leB 8 n).length = 8 := leB_length 8 n
  have ht : (leB 8 n ++ r).take 8 = leB 8 n := List.take_left' hl
  have hd : (leB 8 n ++ r).drop 8 = r := List.drop_left' hl
  have hv : leV (leB 8 n) = n := by rw [leV_leB]; exact Nat.mod_eq_of_lt (by omega)
  unfold rword
  rw [if_neg (by simp), if_neg (by rw [List.length_append, hl]; omega), ht, hv, hd]

theorem rbytes_enc (m r : List UInt8) (most : Int) (h : m.length ≤ 2147483647) (hm : (m.length : Int) ≤ most) : rbytes (leB 4 m.length ++ m ++ r) 0 most = (m, r, 0) := by
  rw [List.append_assoc]
  have hq := rnum_enc m.length (m ++ r) h
  unfold rbytes
  rw [hq]
  dsimp only
  rw [if_neg (by simp), if_neg (by rw [List.length_append]; omega), if_neg (by omega), List.take_left, List.drop_left]

theorem encs_drop (l : List It) (k : Nat) (x : It) (h : l[k]? = some x) : encs (l.drop k) = enc x ++ encs (l.drop (k + 1)) := by
  obtain ⟨hl, e⟩ := List.getElem?_eq_some_iff.1 h
  rw [List.drop_eq_getElem_cons hl, encs, List.flatMap_cons, e]; rfl

theorem encs_drop_len (l : List It) (k : Nat) : ((encs (l.drop k)).length : Int) ≤ wsum l := by
  have h1 := encs_len (l.drop k)
  have h2 := wsum_append (l.take k) (l.drop k)
  rw [List.take_append_drop] at h2
  have h3 := wsum_nonneg (l.take k)
  omega

/-- The loop's state: a Reader with what items from k on are. -/
def BK (w wr : World) (rb : Nat) (l : List It) (k : Nat) : Prop := (∃ v, Rr wr rb v (encs (l.drop k)) 0) ∧ Fr F0 w wr

theorem BK.step {w wr wm w' : World} {rb : Nat} {l m : List It} {k j : Nat} (h : BK w wr rb l k) (hp : w.heap.size ≤ rb) (fm : Fr F0 wr wm) (t : RTo wm w' rb (encs (m.drop j)) 0) : BK w w' rb m j :=
  ⟨t.rr, (F0.trans h.2 fm).trans t.fr (fun i hi e => by omega)⟩

set_option maxRecDepth 100000 in
set_option maxHeartbeats 3200000 in
theorem back_c (v : Value) (l : List It) (w : World) (hr : Its w v l) : Calls Try.prog 6 #[v] w (Yes w) := by
  have HI := hid hr
  obtain ⟨ao, c, rfl, hlc, hc2, hat⟩ := hr.form
  have HA := hid hat
  clear hr hat
  by_cases hw : wsum l ≤ 1000
  · have HW := hid hw
    have hwd : decide (wsum l ≤ 1000) = true := by simp [hw]
    have HWD := hid hwd
    clear hw hwd
    generalize hok : l.all okIt = ok at *
    cases ok with
    | false =>
      have HOK := hid hok
      clear hok
      go_enter Try.func6, Try.ntmps6
      go_wp2_with fail
      refine (small_c _ l _ HI.out).mono ?_
      rintro e w1 ⟨rfl, f1⟩
      rw [HWD.out]
      have I1 := hid (HI.out.keep0 f1)
      have F1 := hid f1
      clear f1
      go_wp2_with fail
      refine (written_c _ l _ I1.out HW.out).mono ?_
      rintro e w2 ⟨v2, rfl, r2, f2⟩
      rw [HOK.out]
      have I2 := hid (I1.out.keep0 f2)
      have F2 := hid (F0.trans F1.out f2)
      clear f2 r2
      go_wp2_with fail
      refine (made_c _ l _ I2.out HW.out).mono ?_
      rintro e w3 ⟨v3, rfl, r3, f3⟩
      rw [HOK.out]
      have F3 := hid (F0.trans F2.out f3)
      clear r3 f3
      go_wp2_with fail
      refine (awake3_c _).mono ?_
      rintro e w4 ⟨rfl, f4⟩
      have F4 := hid (F0.trans F3.out f4)
      clear f4
      go_wp2_with fail
      go_ret
      exact ⟨rfl, F4.out⟩
    | true =>
      have HOK := hid hok
      clear hok
      go_enter Try.func6, Try.ntmps6
      go_wp2_with fail
      refine (small_c _ l _ HI.out).mono ?_
      rintro e w1 ⟨rfl, f1⟩
      rw [HWD.out]
      have I1 := hid (HI.out.keep0 f1)
      have F1 := hid f1
      clear f1
      go_wp2_with fail
      refine (written_c _ l _ I1.out HW.out).mono ?_
      rintro e w2 ⟨v2, rfl, r2, f2⟩
      rw [HOK.out] at r2 ⊢
      have F2 := hid (F0.trans F1.out f2)
      have R2 : Hid (Rd w2 v2 (encs l)) := hid (by simpa using r2)
      clear f2 r2
      go_wp2_with fail
      refine (rnew_c v2 _ _ R2.out (by have := encs_len l; have := HW.out; omega)).mono ?_
      rintro e w3 ⟨rb, rv, rfl, r1, r2, r3⟩
      have HB : Hid (w.heap.size ≤ rb) := hid (by have := F2.out.size; omega)
      have B0 : Hid (BK w w3 rb l 0) := hid ⟨⟨rv, r1⟩, F0.trans F2.out r3⟩
      clear r1 r2 r3
      go_wp2_with fail
      go_loopw [8] (fun i wr => ∃ k : Nat, k ≤ l.length ∧ i = .int .i64 k ∧ Hid (BK w wr rb l k)) (fun i _ => l.length - (intOf i).toNat)
      case atStart => exact ⟨0, by omega, rfl, B0⟩
      case round =>
        obtain ⟨k, hk, rfl, H⟩ := hrel
        by_cases hlt : k < l.length
        · obtain ⟨x, hx⟩ : ∃ x, l[k]? = some x := ⟨_, List.getElem?_eq_getElem hlt⟩
          obtain ⟨b, o, rfl, hb, hi⟩ := HA.out k x hx
          have hi' := hi.keep0 H.out.2 hb
          obtain ⟨c0, c1, c2, c3, hsz⟩ := hi'
          have hed := encs_drop l k x hx
          have hlen := encs_drop_len l k
          have hxok : okIt x = true := by have := HOK.out; rw [List.all_eq_true] at this; exact this x (List.mem_of_getElem? hx)
          have hxs : (x.s.size : Int) ≤ 1000 := by have := HW.out; have := wsum_take l k x hx; have := wsum_take_le l (k + 1); have := wsum_nonneg (l.take k); omega
          have HL : Hid ((encs (l.drop k)).length ≤ 1000) := hid (by have := HW.out; omega)
          have HX := hid (And.intro hx (And.intro hed (And.intro hxok (And.intro hsz hxs))))
          clear hi hx hed hlen hxok hsz hxs
          by_cases k1 : x.kind = 1
          · have k1' : (x.kind == 1) = true := by simp [k1]
            have hn : 0 ≤ x.n ∧ x.n ≤ 2147483647 := by have := HX.out.2.2.1; simp [okIt, k1] at this; omega
            have he : enc x = leB 4 x.n.toNat := by simp [enc, k1]; omega
            obtain ⟨rv, hrr⟩ := H.out.1
            have hcall : ∀ W, Fr F0 wr W → Calls Try.prog 24 #[.pointer (some ⟨rb, 0, none⟩)] W fun e w' => e = .returned (.int .i64 x.n) ∧ BK w w' rb l (k + 1) ∧ Fr (fun i => i = rb) W w' := fun W f => by
              refine (rnum_c rb rv _ 0 W (hrr.keep0 f) (by have := HL.out; omega)).mono ?_
              rintro e w' ⟨rfl, t⟩
              have hq : rnum (encs (l.drop k)) 0 = (x.n.toNat, encs (l.drop (k + 1)), 0) := by rw [HX.out.2.1, he]; exact rnum_enc _ _ (by omega)
              rw [hq] at t ⊢
              exact ⟨ret_int (by simp; omega), BK.step H.out HB.out f t, t.fr⟩
            have hrl := hrr.lt
            have HC := hid hcall
            clear hcall hrr k1 hn he
            go_wp2_with fail
            go_region_held3 (fun w' => w'.cell? ⟨wr.heap.size, 1, none⟩ = some (.int .i64 x.n)) (go_keep)
              (first | (go_at_call 24; refine (HC.out _ (by repeat (first | exact Fr.refl _ _ | apply Fr.drew | apply Fr.alloc))).mono ?_; rintro e w' ⟨rfl, hbk, hfr⟩; have hkk : w'.cell? ⟨wr.heap.size, 1, none⟩ = some (.int .i64 x.n) := (hfr.cell (p := ⟨wr.heap.size, 1, none⟩) (by simp) (by simp; omega)).trans (by simp)))
            go_wp2_with fail
            exact ⟨⟨k + 1, by omega, by go_num, hid hbk⟩, by simp [intOf]; omega⟩
          · have k1' : (x.kind == 1) = false := by simp [k1]
            by_cases k2 : x.kind = 2
            · have k2' : (x.kind == 2) = true := by simp [k2]
              have he : enc x = leB 8 x.w := by simp [enc, k2]
              obtain ⟨rv, hrr⟩ := H.out.1
              have hcall : ∀ W, Fr F0 wr W → Calls Try.prog 25 #[.pointer (some ⟨rb, 0, none⟩)] W fun e w' => e = .returned (.int .u64 x.w) ∧ BK w w' rb l (k + 1) ∧ Fr (fun i => i = rb) W w' := fun W f => by
                refine (rword_c rb rv _ 0 W (hrr.keep0 f) (by have := HL.out; omega)).mono ?_
                rintro e w' ⟨rfl, t⟩
                have hq : rword (encs (l.drop k)) 0 = (x.w, encs (l.drop (k + 1)), 0) := by rw [HX.out.2.1, he]; exact rword_enc _ _ HX.out.2.2.2.1.2
                rw [hq] at t ⊢
                exact ⟨rfl, BK.step H.out HB.out f t, t.fr⟩
              have hrl := hrr.lt
              have HC := hid hcall
              clear hcall hrr k1 k2 he
              go_wp2_with fail
              go_region_held3 (fun w' => w'.cell? ⟨wr.heap.size, 2, none⟩ = some (.int .u64 x.w)) (go_keep)
                (first | (go_at_call 25; refine (HC.out _ (by repeat (first | exact Fr.refl _ _ | apply Fr.drew | apply Fr.alloc))).mono ?_; rintro e w' ⟨rfl, hbk, hfr⟩; have hkk : w'.cell? ⟨wr.heap.size, 2, none⟩ = some (.int .u64 x.w) := (hfr.cell (p := ⟨wr.heap.size, 2, none⟩) (by simp) (by simp; omega)).trans (by simp)))
              go_wp2_with fail
              exact ⟨⟨k + 1, by omega, by go_num, hid hbk⟩, by simp [intOf]; omega⟩
            · have k2' : (x.kind == 2) = false := by simp [k2]
              by_cases k3 : x.kind = 3
              · have k3' : (x.kind == 3) = true := by simp [k3]
                have he : enc x = leB 4 x.s.data.toList.length ++ x.s.data.toList := by simp only [enc, k3, size_data]; simp
                obtain ⟨rv, hrr⟩ := H.out.1
                have hcall : ∀ W, Fr F0 wr W → Calls Try.prog 27 #[.pointer (some ⟨rb, 0, none⟩), .int .i64 1000] W fun e w' => ∃ v', e = .returned v' ∧ Rd w' v' x.s.data.toList ∧ BK w w' rb l (k + 1) ∧ Fr (fun i => i = rb) W w' := fun W f => by
                  refine (rbytes_c rb rv _ 0 1000 W (hrr.keep0 f) (by have := HL.out; omega)).mono ?_
                  rintro e w' ⟨v', rfl, t1, _, _, t⟩
                  have hq : rbytes (encs (l.drop k)) 0 1000 = (x.s.data.toList, encs (l.drop (k + 1)), 0) := by rw [HX.out.2.1, he]; have := HX.out.2.2.2.2; exact rbytes_enc _ _ _ (by rw [size_data]; omega) (by rw [size_data]; omega)
                  rw [hq] at t1 t
                  exact ⟨v', rfl, t1.rd, BK.step H.out HB.out f t, t.fr⟩
                have hrl := hrr.lt
                have HC := hid hcall
                clear hcall hrr k1 k2 k3 he
                go_wp2_with fail
                go_region_with (first | (go_at_call 27; refine (HC.out _ (by repeat (first | exact Fr.refl _ _ | apply Fr.drew | apply Fr.alloc))).mono ?_; rintro e w' ⟨v', rfl, hrd, hbk, hfr⟩; have hsr := run_strB (P := Try.prog) w' 25 9 5 Try.underlying25 Try.underlying5 str_ty v' _ hrd; clear hrd; have hkk : w'.cell? ⟨wr.heap.size, 3, none⟩ = some (.string x.s) := (hfr.cell (p := ⟨wr.heap.size, 3, none⟩) (by simp) (by simp; omega)).trans (by simp)))
                all_goals
                  go_wp2_with fail
                  exact ⟨⟨k + 1, by omega, by go_num, hid hbk⟩, by simp [intOf]; omega⟩
              · have k3' : (x.kind == 3) = false := by simp [k3]
                by_cases k4 : x.kind = 4
                · have k4' : (x.kind == 4) = true := by simp [k4]
                  have he : enc x = leB 4 x.s.data.toList.length ++ x.s.data.toList := by simp only [enc, k4, size_data]; simp
                  obtain ⟨rv, hrr⟩ := H.out.1
                  have hcall : ∀ W, Fr F0 wr W → Calls Try.prog 28 #[.pointer (some ⟨rb, 0, none⟩), .int .i64 1000] W fun e w' => e = .returned (.string x.s) ∧ BK w w' rb l (k + 1) ∧ Fr (fun i => i = rb) W w' := fun W f => by
                    refine (rtext_c rb rv _ 0 1000 W (hrr.keep0 f) (by have := HL.out; omega)).mono ?_
                    rintro e w' ⟨rfl, t⟩
                    have hq : rbytes (encs (l.drop k)) 0 1000 = (x.s.data.toList, encs (l.drop (k + 1)), 0) := by rw [HX.out.2.1, he]; have := HX.out.2.2.2.2; exact rbytes_enc _ _ _ (by rw [size_data]; omega) (by rw [size_data]; omega)
                    rw [hq] at t ⊢
                    exact ⟨rfl, BK.step H.out HB.out f t, t.fr⟩
                  have hrl := hrr.lt
                  have HC := hid hcall
                  clear hcall hrr k1 k2 k3 k4 he
                  go_wp2_with fail
                  go_region_held3 (fun w' => w'.cell? ⟨wr.heap.size, 3, none⟩ = some (.string x.s)) (go_keep)
                    (first | (go_at_call 28; refine (HC.out _ (by repeat (first | exact Fr.refl _ _ | apply Fr.drew | apply Fr.alloc))).mono ?_; rintro e w' ⟨rfl, hbk, hfr⟩; have hkk : w'.cell? ⟨wr.heap.size, 3, none⟩ = some (.string x.s) := (hfr.cell (p := ⟨wr.heap.size, 3, none⟩) (by simp) (by simp; omega)).trans (by simp)))
                  go_wp2_with fail
                  exact ⟨⟨k + 1, by omega, by go_num, hid hbk⟩, by simp [intOf]; omega⟩
                · have k4' : (x.kind == 4) = false := by simp [k4]
                  have he : enc x = [] := by simp [enc, k1, k2, k3, k4]
                  have hq : encs (l.drop (k + 1)) = encs (l.drop k) := by rw [HX.out.2.1, he]; rfl
                  obtain ⟨rv, hrr⟩ := H.out.1
                  have hbk : Hid (∀ W, Fr F0 wr W → BK w W rb l (k + 1)) := hid (fun W f => ⟨⟨rv, by rw [hq]; exact hrr.keep0 f⟩, F0.trans H.out.2 f⟩)
                  clear k1 k2 k3 k4 he hq hrr
                  go_wp2_with fail
                  exact ⟨⟨k + 1, by omega, by go_num, hid (hbk.out _ (by repeat (first | exact Fr.refl _ _ | apply Fr.drew | apply Fr.alloc)))⟩, by simp [intOf]; omega⟩
        · obtain rfl : k = l.length := by omega
          obtain ⟨rv, hrr⟩ := H.out.1
          have hnil : encs (l.drop l.length) = [] := by simp [encs]
          rw [hnil] at hrr
          have HF := hid H.out.2
          have HR := hid hrr
          clear hrr hnil H
          go_wp2_with fail
          refine (rerr_c rb rv [] 0 _ HR.out).mono ?_
          rintro e w5 ⟨rfl, rfl⟩
          go_wp2_with fail
          refine (rleft_c rb rv [] 0 _ HR.out).mono ?_
          rintro e w5 ⟨rfl, rfl⟩
          go_wp2_with fail
          refine (awake3_c _).mono ?_
          rintro e w5 ⟨rfl, f5⟩
          have F5 := hid (F0.trans HF.out f5)
          clear f5
          go_wp2_with fail
          go_ret
          exact ⟨rfl, F5.out⟩
  · have hwd : decide (wsum l ≤ 1000) = false := by simp; omega
    have HWD := hid hwd
    clear hw hwd
    go_enter Try.func6, Try.ntmps6
    go_wp2_with fail
    refine (small_c _ l _ HI.out).mono ?_
    rintro e w1 ⟨rfl, f1⟩
    rw [HWD.out]
    have F1 := hid f1
    clear f1
    go_wp2_with fail
    refine (awake3_c _).mono ?_
    rintro e w2 ⟨rfl, f2⟩
    have F2 := hid (F0.trans F1.out f2)
    clear f2
    go_wp2_with fail
    go_ret
    exact ⟨rfl, F2.out⟩

end Go.Proofs.Ytfalaopljodmnaa
