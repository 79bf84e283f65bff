/- linnetlaw3.CodecReads: the walk. -/
import Derived.Test.YtfalaopljodmnaaWrites
namespace Go.Proofs.Ytfalaopljodmnaa
open Go.RowKit

theorem be_step (a : Nat) (r : List UInt8) (u : UInt8) (h : r.length ≤ 7) (ha : a = leV r) : bits .or .u64 (IntKind.u64.wrap ((a : Int) * 256)) (u.toNat : Int) = ((leV (u :: r) : Nat) : Int) := by
  subst ha
  have h1 := leV_lt r
  have h2 : (256 : Nat) ^ r.length ≤ 256 ^ 7 := Nat.pow_le_pow_right (by omega) h
  have h3 : (256 : Nat) ^ 7 = 72057594037927936 := by decide
  have hu := u.toNat_lt
  rw [IntKind.wrap_u64, show ((leV r : Int) * 256) % 18446744073709551616 = ((leV r * 256 : Nat) : Int) from by omega, bits_or_u64_nat _ _ (by omega) (by omega), Nat.or_comm,
    show leV r * 256 = leV r * 2 ^ 8 from rfl, or_add _ _ 8 (by omega), leV]
  omega

theorem gnum_rnum (l : List UInt8) (h : 0 ≤ gnum l) : rnum l 0 = ((gnum l).toNat, l.drop 4, 0) ∧ 4 ≤ l.length := by
  unfold gnum at h ⊢
  split at h
  · omega
  · rename_i hc
    rw [if_neg hc]
    unfold rnum
    rw [if_neg (by simp), if_neg (by omega), if_neg (by omega)]
    exact ⟨by simp, by omega⟩

theorem gnum_bad (l : List UInt8) (h : gnum l < 0) : ∃ r, rnum l 0 = (0, r, 2) ∧ r.length ≤ l.length := by
  unfold gnum at h
  split at h
  · rename_i hc
    unfold rnum
    rw [if_neg (by simp)]
    by_cases h4 : l.length < 4
    · exact ⟨l, by rw [if_pos h4], Nat.le_refl _⟩
    · exact ⟨l.drop 4, by rw [if_neg h4, if_pos (by omega)], by simp⟩
  · omega

theorem gbytes_ok (l : List UInt8) (most : Int) (h : (gbytes l most).2.2 = 0) : rbytes l 0 most = ((gbytes l most).1, (gbytes l most).2.1, 0) ∧ 4 ≤ l.length := by
  unfold gbytes at h ⊢
  split at h
  · simp at h
  · rename_i h1
    rw [if_neg h1]
    split at h
    · simp at h
    · rename_i h2
      rw [if_neg h2]
      obtain ⟨hq, h4⟩ := gnum_rnum l (by omega)
      refine ⟨?_, h4⟩
      unfold rbytes
      rw [hq]
      dsimp only
      rw [if_neg (by simp), if_neg (by rw [List.length_drop]; omega), if_neg (by omega), List.drop_drop]

theorem Rd.back {w w' : World} {v : Value} {l : List UInt8} (h : Rd w' v l) (f : Fr F0 w w') (hb : ∀ k, v.ownBlock = some k → k < w.heap.size) : Rd w v l := by
  obtain ⟨h0, ao, c, rfl, h1, h2, h3, h4⟩ := h
  refine ⟨h0, ao, c, rfl, h1, h2, h3, fun hp => ?_⟩
  obtain ⟨b, o, rfl, _, h6⟩ := h4 hp
  have hlt := hb b rfl
  refine ⟨b, o, rfl, hlt, fun i hi => ?_⟩
  rw [← f.cell (p := ⟨b, o + i, none⟩) hlt (fun e => e)]
  exact h6 i hi

theorem Rd.own_lt {w : World} {ao : Option Addr} {n c : Nat} {l : List UInt8} (h : Rd w (.slice ao n c) l) (hp : 0 < n) : ∀ k, Value.ownBlock (.slice ao n c) = some k → k < w.heap.size := by
  intro k hk
  refine h.lt k ?_
  obtain ⟨m, rfl⟩ : ∃ m, n = m + 1 := ⟨n - 1, by omega⟩
  cases ao with
  | none => simp [Value.ownBlock] at hk
  | some a => simpa [rblk, Value.ownBlock] using hk

theorem gbytes_bad (l : List UInt8) (most : Int) (h : (gbytes l most).2.2 ≠ 0) : ∃ r, rbytes l 0 most = ([], r, (gbytes l most).2.2) ∧ (gbytes l most).1 = [] ∧ r.length ≤ l.length := by
  unfold gbytes at h ⊢
  split at h
  · rename_i h1
    rw [if_pos h1]
    by_cases h2 : gnum l < 0
    · obtain ⟨r, hr, hl⟩ := gnum_bad l h2
      exact ⟨r, by unfold rbytes; rw [hr]; simp, rfl, hl⟩
    · obtain ⟨hq, h4⟩ := gnum_rnum l (by omega)
      refine ⟨l.drop 4, ?_, rfl, by simp⟩
      unfold rbytes
      rw [hq]
      dsimp only
      rw [if_neg (by simp), if_pos (by rw [List.length_drop]; omega)]
  · rename_i h1
    rw [if_neg h1]
    split at h
    · rename_i h2
      rw [if_pos h2]
      obtain ⟨hq, h4⟩ := gnum_rnum l (by omega)
      refine ⟨l.drop 4, ?_, rfl, by simp⟩
      unfold rbytes
      rw [hq]
      dsimp only
      rw [if_neg (by simp), if_neg (by rw [List.length_drop]; omega), if_pos (by omega)]
    · simp at h

theorem rnum_err (l : List UInt8) (e : Int) (h : e ≠ 0) : rnum l e = (0, l, e) := by simp [rnum, h]
theorem rword_err (l : List UInt8) (e : Int) (h : e ≠ 0) : rword l e = (0, l, e) := by simp [rword, h]
theorem rbytes_err (l : List UInt8) (e most : Int) (h : e ≠ 0) : rbytes l e most = ([], l, e) := by simp [rbytes, rnum_err l e h, h]
theorem rword_few (l : List UInt8) (h : l.length < 8) : rword l 0 = (0, l, 2) := by simp [rword, h]
theorem rword_ok (l : List UInt8) (h : ¬ l.length < 8) : rword l 0 = (leV (l.take 8), l.drop 8, 0) := by simp [rword, h]

theorem gbytes_code (l : List UInt8) (most : Int) : (gbytes l most).2.2 = 0 ∨ (gbytes l most).2.2 = 2 ∨ (gbytes l most).2.2 = 3 := by
  unfold gbytes
  split
  · simp
  · split <;> simp

theorem gbytes_len (l : List UInt8) (most : Int) : (gbytes l most).2.1.length ≤ l.length ∧ (gbytes l most).1.length ≤ l.length := by
  unfold gbytes
  split
  · simp
  · split
    · simp
    · simp; omega

/-- The round's state: what the law has left (L, in place since w), the Reader (l, e). -/
def RK (w wr : World) (rb : Nat) (lv : Value) (L : List UInt8) (e : Int) : Prop :=
  Fr F0 w wr ∧ Rd w lv L ∧ L.length ≤ 300 ∧ ∃ v l, Rr wr rb v l e ∧ l.length ≤ 300 ∧ (e = 0 → l = L)

theorem emod4 (k : Int) : k % 4 = 0 ∨ k % 4 = 1 ∨ k % 4 = 2 ∨ k % 4 = 3 := by omega

set_option maxRecDepth 100000 in
set_option maxHeartbeats 12800000 in
theorem reads_in (bv kv : Value) (b0 : List UInt8) (ks : List Int) (most : Int) (w : World) (hb : Rd w bv b0) (hk : Ri w kv ks) (hbl : b0.length ≤ 300) (hkl : ks.length ≤ 60) (hm0 : 0 ≤ most) (hm1 : most ≤ 1048576) :
    Calls Try.prog 4 #[bv, kv, .int .i64 most] w (Yes w) := by
  obtain ⟨bo, bc, rfl, hbc⟩ := hb.form
  have HBR := hid hb
  have hkf : ∃ ko kc, kv = .slice ko ks.length kc ∧ ks.length ≤ kc ∧ ∀ (i : Nat) (u : Int), ks[i]? = some u → ∃ b o, ko = some ⟨b, o, none⟩ ∧ b < w.heap.size ∧ w.cell? ⟨b, o + i, none⟩ = some (.int .i64 u) := by
    obtain ⟨_, ao, c, rfl, h1, _, _, h4⟩ := hk
    refine ⟨ao, c, rfl, h1, fun i u hu => ?_⟩
    obtain ⟨hi, e⟩ := List.getElem?_eq_some_iff.1 hu
    obtain ⟨b, o, rfl, h5, h6⟩ := h4 (by omega)
    exact ⟨b, o, rfl, h5, by rw [h6 i (by simpa using hi)]; simp [e]⟩
  obtain ⟨ko, kc, rfl, hkc, hcell⟩ := hkf
  have HKC := hid hcell
  clear hb hk hcell
  go_enter Try.func4, Try.ntmps4
  go_wp2_with fail
  refine (rnew_c _ b0 _ HBR.out (by omega)).mono ?_
  rintro e w1 ⟨rb, rv, rfl, r1, r2, r3⟩
  have HB : Hid (w.heap.size ≤ rb) := hid r2
  have K0 : Hid (RK w w1 rb (.slice bo b0.length bc) b0 0) := hid ⟨r3, HBR.out, hbl, rv, b0, r1, hbl, fun _ => rfl⟩
  clear r1 r2 r3
  go_wp2_with fail
  go_loopw [8, 9, 10] (fun lv ev i wr => ∃ (k : Nat) (L : List UInt8) (ao : Option Addr) (n c : Nat) (e : Int), k ≤ ks.length ∧ i = .int .i64 k ∧ lv = .slice ao n c ∧ ev = .int .i64 e ∧ n ≤ 300 ∧ Hid (n = L.length) ∧ Hid (RK w wr rb (.slice ao n c) L e)) (fun _ _ i _ => ks.length - (intOf i).toNat)
  case atStart => exact ⟨0, b0, bo, b0.length, bc, 0, by omega, rfl, rfl, rfl, hbl, hid rfl, K0⟩
  case round =>
    obtain ⟨k, L, ao, n, c, e, hk, rfl, rfl, rfl, hn, HN, H⟩ := hrel
    by_cases hlt : k < ks.length
    · obtain ⟨u, hu⟩ : ∃ u, ks[k]? = some u := ⟨_, List.getElem?_eq_getElem hlt⟩
      obtain ⟨b, o, rfl, hb, hc0⟩ := HKC.out k u hu
      have hc := (H.out.1.cell (p := ⟨b, o + k, none⟩) hb (fun e => e)).trans hc0
      have HCW := hid hc0
      clear hu hc0
      have hu4 := emod4 u
      rcases hu4 with hu4 | hu4 | hu4 | hu4
      · have HU := hid hu4
        clear hu4
        go_wp2_with fail
        refine (round_c u 4 _ (by omega) (by omega)).mono ?_
        rintro e0 w2 ⟨rfl, rfl⟩
        rw [HU.out]
        obtain ⟨hf0, hrd0, hL0, rv, l, hrr, hll, hel⟩ := H.out
        have HF := hid hf0
        have HRD := hid hrd0
        have HRR := hid hrr
        have HLL := hid hll
        have HL0 := hid hL0
        clear hf0 hrd0 hL0 hrr H
        by_cases he : e = 0
        · subst he
          obtain rfl := hel rfl
          clear hel hll
          by_cases hg : gnum l < 0
          · obtain ⟨r9, hq, hr9⟩ := gnum_bad l hg
            have HQ := hid (And.intro hq hr9)
            clear hq hr9
            have hgc := hid (fun W (f : Fr F0 w W) => getnum_c (.slice ao n c) l W (HRD.out.keep0 f))
            generalize gnum l = g at *
            go_wp2_with fail
            refine (hgc.out _ HF.out).mono ?_
            rintro e3 w3 ⟨rfl, f3⟩
            have HFW := hid (F0.trans HF.out f3)
            have HRW := hid (HRR.out.keep0 f3)
            clear f3
            go_wp2_with fail
            refine (rnum_c rb rv _ 0 _ HRW.out (by have := HLL.out; omega)).mono ?_
            rintro e4 w9 ⟨rfl, ⟨rv9, rr9⟩, f9⟩
            rw [HQ.out.1] at rr9 ⊢
            dsimp only at rr9 ⊢
            have HE9 : Hid ((2 : Int) ≠ 0) := hid (by omega)
            clear hg
            have HR9 := hid rr9
            have HF9 : Hid (Fr F0 w w9) := hid (HFW.out.trans f9 (fun i hi e => by have := HB.out; omega))
            clear rr9 f9
            have HN8 := hn
            have HN9 := HN
            have HK9 : Hid (RK w w9 rb (.slice ao n c) l (2)) := hid ⟨HF9.out, HRD.out, HL0.out, _, _, HR9.out, by have := HQ.out.2; have := HLL.out; omega, fun h => absurd h HE9.out⟩
            go_wp2_with fail
            refine (rleft_c rb rv9 _ (2) _ HR9.out).mono ?_
            rintro e9 w10 ⟨rfl, rfl⟩
            rw [if_neg HE9.out]
            go_wp2_with fail
            refine (rerr_c rb rv9 _ (2) _ HR9.out).mono ?_
            rintro e9 w10 ⟨rfl, rfl⟩
            go_wp2_with fail
            exact ⟨⟨k + 1, _, _, _, _, _, by omega, by go_num, rfl, rfl, HN8, HN9, HK9⟩, by simp [intOf]; omega⟩
          · have HQ := hid (gnum_rnum l (by omega))
            have hgc := hid (fun W (f : Fr F0 w W) => getnum_c (.slice ao n c) l W (HRD.out.keep0 f))
            obtain ⟨a8, m8, c8, hrun8, H8⟩ := run_slB (P := Try.prog) 25 5 Try.underlying25 infoB _ l HRD.out (some (.int .i64 4)) none 4 l.length (.inr rfl) (.inl ⟨rfl, rfl⟩) HQ.out.2 (Nat.le_refl _)
            generalize gnum l = g at *
            go_wp2_with fail
            refine (hgc.out _ HF.out).mono ?_
            rintro e3 w3 ⟨rfl, f3⟩
            have HFW := hid (F0.trans HF.out f3)
            have HRW := hid (HRR.out.keep0 f3)
            clear f3
            go_wp2_with fail
            refine (rnum_c rb rv _ 0 _ HRW.out (by have := HLL.out; omega)).mono ?_
            rintro e4 w9 ⟨rfl, ⟨rv9, rr9⟩, f9⟩
            rw [HQ.out.1] at rr9 ⊢
            have hgn : ((g.toNat : Nat) : Int) = g := by omega
            dsimp only at rr9 ⊢
            rw [hgn]
            clear hg hgn hrun8
            have HR9 := hid rr9
            have HF9 : Hid (Fr F0 w w9) := hid (HFW.out.trans f9 (fun i hi e => by have := HB.out; omega))
            clear rr9 f9
            obtain ⟨hA8, hB8, hC8, _⟩ := H8.out
            have HN8 : m8 ≤ 300 := by have := HLL.out; omega
            have HN9 : Hid (m8 = (l.drop 4).length) := hid (by rw [List.length_drop]; exact hB8)
            have hA8 : Rd w (.slice a8 m8 c8) (l.drop 4) := by rw [List.take_of_length_le (by rw [List.length_drop]; omega)] at hA8; exact hA8
            have HK9 : Hid (RK w w9 rb (.slice a8 m8 c8) (l.drop 4) 0) := hid ⟨HF9.out, hA8, by rw [List.length_drop]; have := HLL.out; omega, _, _, HR9.out, by rw [List.length_drop]; have := HLL.out; omega, fun _ => rfl⟩
            clear hA8 hB8 hC8
            go_wp2_with fail
            refine (rleft_c rb rv9 _ 0 _ HR9.out).mono ?_
            rintro e9 w10 ⟨rfl, rfl⟩
            rw [if_pos rfl, ← HN9.out]
            go_wp2_with fail
            refine (rerr_c rb rv9 _ 0 _ HR9.out).mono ?_
            rintro e9 w10 ⟨rfl, rfl⟩
            go_wp2_with fail
            exact ⟨⟨k + 1, _, _, _, _, _, by omega, by go_num, rfl, rfl, HN8, HN9, HK9⟩, by simp [intOf]; omega⟩
        · have he1 : (e == 0) = false := by simp [he]
          have he2 : (e != 0) = true := by simp [he]
          have HE9 := hid he
          clear he hel hll
          have hgc := hid (fun W (f : Fr F0 w W) => getnum_c (.slice ao n c) L W (HRD.out.keep0 f))
          generalize gnum L = g at *
          go_wp2_with fail
          refine (hgc.out _ HF.out).mono ?_
          rintro e3 w3 ⟨rfl, f3⟩
          have HFW := hid (F0.trans HF.out f3)
          have HRW := hid (HRR.out.keep0 f3)
          clear f3
          go_wp2_with fail
          refine (rnum_c rb rv _ e _ HRW.out (by have := HLL.out; omega)).mono ?_
          rintro e4 w9 ⟨rfl, ⟨rv9, rr9⟩, f9⟩
          rw [rnum_err _ _ HE9.out] at rr9 ⊢
          dsimp only at rr9 ⊢
          have HR9 := hid rr9
          have HF9 : Hid (Fr F0 w w9) := hid (HFW.out.trans f9 (fun i hi e => by have := HB.out; omega))
          clear rr9 f9
          have HN8 := hn
          have HN9 := HN
          have HK9 : Hid (RK w w9 rb (.slice ao n c) L (e)) := hid ⟨HF9.out, HRD.out, HL0.out, _, _, HR9.out, by exact HLL.out, fun h => absurd h HE9.out⟩
          go_wp2_with fail
          refine (rleft_c rb rv9 _ (e) _ HR9.out).mono ?_
          rintro e9 w10 ⟨rfl, rfl⟩
          rw [if_neg HE9.out]
          go_wp2_with fail
          refine (rerr_c rb rv9 _ (e) _ HR9.out).mono ?_
          rintro e9 w10 ⟨rfl, rfl⟩
          go_wp2_with fail
          exact ⟨⟨k + 1, _, _, _, _, _, by omega, by go_num, rfl, rfl, HN8, HN9, HK9⟩, by simp [intOf]; omega⟩
      · have HU := hid hu4
        clear hu4
        go_wp2_with fail
        refine (round_c u 4 _ (by omega) (by omega)).mono ?_
        rintro e0 w2 ⟨rfl, rfl⟩
        rw [HU.out]
        obtain ⟨hf0, hrd0, hL0, rv, l, hrr, hll, hel⟩ := H.out
        have HF := hid hf0
        have HRD := hid hrd0
        have HRR := hid hrr
        have HLL := hid hll
        have HL0 := hid hL0
        clear hf0 hrd0 hL0 hrr H
        by_cases he : e = 0
        · subst he
          obtain rfl := hel rfl
          clear hel hll
          by_cases h8 : l.length < 8
          · have h8' : n < 8 := by have := HN.out; omega
            have HQ := hid (rword_few l h8)
            clear h8
            go_wp2_with fail
            refine (rword_c rb rv _ 0 _ HRR.out (by have := HLL.out; omega)).mono ?_
            rintro e4 w9 ⟨rfl, ⟨rv9, rr9⟩, f9⟩
            rw [HQ.out] at rr9 ⊢
            dsimp only at rr9 ⊢
            have HE9 : Hid ((2 : Int) ≠ 0) := hid (by omega)
            have HFW := HF
            have HR9 := hid rr9
            have HF9 : Hid (Fr F0 w w9) := hid (HFW.out.trans f9 (fun i hi e => by have := HB.out; omega))
            clear rr9 f9
            have HN8 := hn
            have HN9 := HN
            have HK9 : Hid (RK w w9 rb (.slice ao n c) l (2)) := hid ⟨HF9.out, HRD.out, HL0.out, _, _, HR9.out, by exact HLL.out, fun h => absurd h HE9.out⟩
            go_wp2_with fail
            refine (rleft_c rb rv9 _ (2) _ HR9.out).mono ?_
            rintro e9 w10 ⟨rfl, rfl⟩
            rw [if_neg HE9.out]
            go_wp2_with fail
            refine (rerr_c rb rv9 _ (2) _ HR9.out).mono ?_
            rintro e9 w10 ⟨rfl, rfl⟩
            go_wp2_with fail
            exact ⟨⟨k + 1, _, _, _, _, _, by omega, by go_num, rfl, rfl, HN8, HN9, HK9⟩, by simp [intOf]; omega⟩
          · have h8' : ¬ n < 8 := by have := HN.out; omega
            have HQ := hid (And.intro (rword_ok l h8) h8)
            obtain ⟨a8, m8, c8, hrun8, H8⟩ := run_slB (P := Try.prog) 25 5 Try.underlying25 infoB _ l HRD.out (some (.int .i64 8)) none 8 l.length (.inr rfl) (.inl ⟨rfl, rfl⟩) (by omega) (Nat.le_refl _)
            obtain ⟨b7, o7, c7, hv7, hc7, hcell7⟩ := (HRD.out.keep0 HF.out).open (by omega)
            cases hv7
            have HC7 := hid hcell7
            clear h8 hcell7
            go_wp2_with fail
            go_loop [13, 14] (fun x i => ∃ (j y : Nat) (q : Int), j ≤ 8 ∧ -1 ≤ q ∧ q ≤ 7 ∧ Hid (q = (j : Int) - 1) ∧ i = .int .i64 q ∧ x = .int .u64 y ∧ Hid (y = leV ((l.take 8).drop j))) (fun _ i => (intOf i + 1).toNat)
            case atStart => exact ⟨8, 0, 7, by omega, by omega, by omega, hid rfl, rfl, rfl, hid (by rw [List.drop_of_length_le (by rw [List.length_take]; omega)]; rfl)⟩
            case round =>
              obtain ⟨j, y, q, hj8, hq0, hq1, HJ, rfl, rfl, HY⟩ := hrel
              by_cases hq : 0 ≤ q
              · obtain ⟨m, rfl⟩ := Int.eq_ofNat_of_zero_le hq
                have hm8 : m < l.length := by have := HQ.out.2; omega
                obtain ⟨u7, hu7⟩ : ∃ u7, l[m]? = some u7 := ⟨_, List.getElem?_eq_getElem hm8⟩
                have hcm := HC7.out m u7 hu7
                have hul := u7.toNat_lt
                have HST : Hid (bits .or .u64 (IntKind.u64.wrap ((y : Int) * 256)) (u7.toNat : Int) = ((leV ((l.take 8).drop m) : Nat) : Int)) := hid (by
                  have hjm : j = m + 1 := by have := HJ.out; omega
                  have h8 := HQ.out.2
                  have hd : (l.take 8).drop m = u7 :: (l.take 8).drop (m + 1) := by
                    rw [List.drop_eq_getElem_cons (by rw [List.length_take]; omega), List.getElem_take]
                    rw [List.getElem?_eq_getElem hm8] at hu7
                    cases hu7; rfl
                  rw [hd]
                  exact be_step y _ u7 (by rw [List.length_drop, List.length_take]; omega) (by rw [HY.out, hjm]))
                clear hu7
                go_wp2_with fail
                exact ⟨⟨m, _, (m : Int) - 1, by omega, by omega, by omega, hid rfl, rfl, by rw [HST.out], hid rfl⟩, by simp [intOf]⟩
              · have hjz : j = 0 := by have := HJ.out; omega
                subst hjz
                have hy : y = leV (l.take 8) := by simpa using HY.out
                subst hy
                go_wp2_with fail
                refine (rword_c rb rv _ 0 _ HRR.out (by have := HLL.out; omega)).mono ?_
                rintro e4 w9 ⟨rfl, ⟨rv9, rr9⟩, f9⟩
                rw [HQ.out.1] at rr9 ⊢
                dsimp only at rr9 ⊢
                have HFW := HF
                have HR9 := hid rr9
                have HF9 : Hid (Fr F0 w w9) := hid (HFW.out.trans f9 (fun i hi e => by have := HB.out; omega))
                clear rr9 f9
                obtain ⟨hA8, hB8, hC8, _⟩ := H8.out
                have HN8 : m8 ≤ 300 := by have := HLL.out; omega
                have HN9 : Hid (m8 = (l.drop 8).length) := hid (by rw [List.length_drop]; exact hB8)
                have hA8 : Rd w (.slice a8 m8 c8) (l.drop 8) := by rw [List.take_of_length_le (by rw [List.length_drop]; omega)] at hA8; exact hA8
                have HK9 : Hid (RK w w9 rb (.slice a8 m8 c8) (l.drop 8) 0) := hid ⟨HF9.out, hA8, by rw [List.length_drop]; have := HLL.out; omega, _, _, HR9.out, by rw [List.length_drop]; have := HLL.out; omega, fun _ => rfl⟩
                clear hA8 hB8 hC8
                go_wp2_with fail
                refine (rleft_c rb rv9 _ 0 _ HR9.out).mono ?_
                rintro e9 w10 ⟨rfl, rfl⟩
                rw [if_pos rfl, ← HN9.out]
                go_wp2_with fail
                refine (rerr_c rb rv9 _ 0 _ HR9.out).mono ?_
                rintro e9 w10 ⟨rfl, rfl⟩
                go_wp2_with fail
                exact ⟨⟨k + 1, _, _, _, _, _, by omega, by go_num, rfl, rfl, HN8, HN9, HK9⟩, by simp [intOf]; omega⟩
        · have he1 : (e == 0) = false := by simp [he]
          have he2 : (e != 0) = true := by simp [he]
          have HE9 := hid he
          clear he hel hll
          go_wp2_with fail
          refine (rword_c rb rv _ e _ HRR.out (by have := HLL.out; omega)).mono ?_
          rintro e4 w9 ⟨rfl, ⟨rv9, rr9⟩, f9⟩
          rw [rword_err _ _ HE9.out] at rr9 ⊢
          dsimp only at rr9 ⊢
          have HFW := HF
          have HR9 := hid rr9
          have HF9 : Hid (Fr F0 w w9) := hid (HFW.out.trans f9 (fun i hi e => by have := HB.out; omega))
          clear rr9 f9
          have HN8 := hn
          have HN9 := HN
          have HK9 : Hid (RK w w9 rb (.slice ao n c) L (e)) := hid ⟨HF9.out, HRD.out, HL0.out, _, _, HR9.out, by exact HLL.out, fun h => absurd h HE9.out⟩
          go_wp2_with fail
          refine (rleft_c rb rv9 _ (e) _ HR9.out).mono ?_
          rintro e9 w10 ⟨rfl, rfl⟩
          rw [if_neg HE9.out]
          go_wp2_with fail
          refine (rerr_c rb rv9 _ (e) _ HR9.out).mono ?_
          rintro e9 w10 ⟨rfl, rfl⟩
          go_wp2_with fail
          exact ⟨⟨k + 1, _, _, _, _, _, by omega, by go_num, rfl, rfl, HN8, HN9, HK9⟩, by simp [intOf]; omega⟩
      · have HU := hid hu4
        clear hu4
        go_wp2_with fail
        refine (round_c u 4 _ (by omega) (by omega)).mono ?_
        rintro e0 w2 ⟨rfl, rfl⟩
        rw [HU.out]
        obtain ⟨hf0, hrd0, hL0, rv, l, hrr, hll, hel⟩ := H.out
        have HF := hid hf0
        have HRD := hid hrd0
        have HRR := hid hrr
        have HLL := hid hll
        have HL0 := hid hL0
        clear hf0 hrd0 hL0 hrr H
        by_cases he : e = 0
        · subst he
          obtain rfl := hel rfl
          clear hel hll
          have hgb := getbytes_c (.slice ao n c) l most
          have hgl := gbytes_len l most
          have hgo := gbytes_ok l most
          have hgx := gbytes_bad l most
          have hcode := gbytes_code l most
          generalize gbytes l most = g at *
          obtain ⟨x1, x2, x3⟩ := g
          dsimp only at hgb hgl hgo hgx hcode
          have HGB := hid (fun W (f : Fr F0 w W) => hgb W (HRD.out.keep0 f) (by have := HLL.out; omega))
          have HGL := hid hgl
          clear hgb hgl
          by_cases hx3 : x3 = 0
          · subst hx3
            have HQ := hid (hgo rfl)
            clear hgo hgx hcode
            go_wp2_with fail
            refine (HGB.out _ HF.out).mono ?_
            rintro e3 w3 ⟨v1, v2, rfl, g1, g2, g3, g4, g5⟩
            have HFW := hid (F0.trans HF.out g3)
            have HRW := hid (HRR.out.keep0 g3)
            have G1 := hid g1
            have hlt5 := HRD.out.own_lt (by have := HN.out; have := HQ.out.2; omega)
            have G5 : Hid (Rd w v2 x2) := hid (g2.back HFW.out (fun k hk => hlt5 k (g5 k hk)))
            have G6 : Hid (∀ k, v1.ownBlock = some k → k ≠ rb) := hid (fun k hk => by have := hlt5 k (g4 k hk); have := HB.out; omega)
            obtain ⟨ao2, c2, hv2, _⟩ := g2.form
            generalize hx2 : x2.length = n2 at hv2
            subst hv2
            have HX2 := hid hx2
            obtain ⟨ao1, c1, hv1, _⟩ := g1.form
            generalize hx1 : x1.length = n1 at hv1
            subst hv1
            have hc3 : w3.cell? ⟨b, o + k, none⟩ = some (.int .i64 u) := (HFW.out.cell (p := ⟨b, o + k, none⟩) hb (fun e => e)).trans HCW.out
            clear g1 g2 g3 g4 g5 hx1 hx2 hlt5
            go_wp2_with fail
            refine (round_c u 4 _ (by omega) (by omega)).mono ?_
            rintro e1 w2 ⟨rfl, rfl⟩
            rw [HU.out]
            go_wp2_with fail
            refine (rbytes_c rb rv _ (0) most _ HRW.out (by have := HLL.out; omega)).mono ?_
            rintro e4 w9 ⟨v9, rfl, bo9, _, _, ⟨rv9, rr9⟩, f9⟩
            rw [HQ.out.1] at bo9 rr9
            dsimp only at bo9 rr9
            have HBO := hid bo9.rd
            clear bo9
            have HR9 := hid rr9
            have HF9 : Hid (Fr F0 w w9) := hid (HFW.out.trans f9 (fun i hi e => by have := HB.out; omega))
            have HWV : Hid (Rd w9 (.slice ao1 n1 c1) x1) := hid (G1.out.keep f9 (fun k hk e => G6.out k hk e))
            clear rr9 f9
            have HN8 : n2 ≤ 300 := by have := HX2.out; have := HGL.out.1; have := HLL.out; omega
            have HN9 : Hid (n2 = x2.length) := hid HX2.out.symm
            have HK9 : Hid (RK w w9 rb (.slice ao2 n2 c2) x2 0) := hid ⟨HF9.out, G5.out, by have := HGL.out.1; have := HLL.out; omega, _, _, HR9.out, by have := HGL.out.1; have := HLL.out; omega, fun _ => rfl⟩
            go_wp2_with (first | (refine wpList_strB rfl (.tmp 77) 25 9 rfl 5 Try.underlying25 Try.underlying5 str_ty v9 (x1) rfl HBO.out ?_) | (refine wpList_strB rfl (.tmp 83) 25 9 rfl 5 Try.underlying25 Try.underlying5 str_ty (.slice ao1 n1 c1) (x1) rfl HWV.out ?_))
            refine (rleft_c rb rv9 _ 0 _ HR9.out).mono ?_
            rintro e9 w10 ⟨rfl, rfl⟩
            rw [if_pos rfl, ← HN9.out]
            go_wp2_with fail
            refine (rerr_c rb rv9 _ 0 _ HR9.out).mono ?_
            rintro e9 w10 ⟨rfl, rfl⟩
            go_wp2_with fail
            exact ⟨⟨k + 1, _, _, _, _, _, by omega, by go_num, rfl, rfl, HN8, HN9, HK9⟩, by simp [intOf]; omega⟩
          · have HQ := hid (hgx hx3)
            have he1 : (x3 == 0) = false := by simp [hx3]
            have he2 : (x3 != 0) = true := by simp [hx3]
            have HE9 := hid hx3
            clear hgo hgx hcode hx3
            obtain ⟨r9, HQ1, HQ2, HQ3⟩ := HQ.out
            have HQ := hid (And.intro HQ1 (And.intro HQ2 HQ3))
            clear HQ1 HQ2 HQ3
            go_wp2_with fail
            refine (HGB.out _ HF.out).mono ?_
            rintro e3 w3 ⟨v1, v2, rfl, g1, g2, g3, g4, g5⟩
            have HFW := hid (F0.trans HF.out g3)
            have HRW := hid (HRR.out.keep0 g3)
            have hc3 : w3.cell? ⟨b, o + k, none⟩ = some (.int .i64 u) := (HFW.out.cell (p := ⟨b, o + k, none⟩) hb (fun e => e)).trans HCW.out
            clear g1 g2 g3 g4 g5
            go_wp2_with fail
            refine (round_c u 4 _ (by omega) (by omega)).mono ?_
            rintro e1 w2 ⟨rfl, rfl⟩
            rw [HU.out]
            go_wp2_with fail
            refine (rbytes_c rb rv _ (0) most _ HRW.out (by have := HLL.out; omega)).mono ?_
            rintro e4 w9 ⟨v9, rfl, bo9, _, _, ⟨rv9, rr9⟩, f9⟩
            rw [HQ.out.1] at bo9 rr9
            dsimp only at bo9 rr9
            have HBO := hid bo9.rd
            clear bo9
            have HR9 := hid rr9
            have HF9 : Hid (Fr F0 w w9) := hid (HFW.out.trans f9 (fun i hi e => by have := HB.out; omega))
            clear rr9 f9
            have HWV : Hid (Rd w9 (.slice none 0 0) []) := hid (Rd.nil _)
            have HN8 := hn
            have HN9 := HN
            have HK9 : Hid (RK w w9 rb (.slice ao n c) l (x3)) := hid ⟨HF9.out, HRD.out, HL0.out, _, _, HR9.out, by have := HQ.out.2.2; have := HLL.out; omega, fun h => absurd h HE9.out⟩
            go_wp2_with (first | (refine wpList_strB rfl (.tmp 77) 25 9 rfl 5 Try.underlying25 Try.underlying5 str_ty v9 ([]) rfl HBO.out ?_) | (refine wpList_strB rfl (.tmp 83) 25 9 rfl 5 Try.underlying25 Try.underlying5 str_ty (.slice none 0 0) ([]) rfl HWV.out ?_))
            refine (rleft_c rb rv9 _ (x3) _ HR9.out).mono ?_
            rintro e9 w10 ⟨rfl, rfl⟩
            rw [if_neg HE9.out]
            go_wp2_with fail
            refine (rerr_c rb rv9 _ (x3) _ HR9.out).mono ?_
            rintro e9 w10 ⟨rfl, rfl⟩
            go_wp2_with fail
            exact ⟨⟨k + 1, _, _, _, _, _, by omega, by go_num, rfl, rfl, HN8, HN9, HK9⟩, by simp [intOf]; omega⟩
        · have he1 : (e == 0) = false := by simp [he]
          have he2 : (e != 0) = true := by simp [he]
          have HE9 := hid he
          clear he hel hll
          go_wp2_with fail
          refine (round_c u 4 _ (by omega) (by omega)).mono ?_
          rintro e1 w2 ⟨rfl, rfl⟩
          rw [HU.out]
          go_wp2_with fail
          refine (rbytes_c rb rv _ (e) most _ HRR.out (by have := HLL.out; omega)).mono ?_
          rintro e4 w9 ⟨v9, rfl, bo9, _, _, ⟨rv9, rr9⟩, f9⟩
          rw [rbytes_err _ _ _ HE9.out] at bo9 rr9
          dsimp only at bo9 rr9
          have HBO := hid bo9.rd
          clear bo9
          have HFW := HF
          have HR9 := hid rr9
          have HF9 : Hid (Fr F0 w w9) := hid (HFW.out.trans f9 (fun i hi e => by have := HB.out; omega))
          clear rr9 f9
          have HWV : Hid (Rd w9 (.slice none 0 0) []) := hid (Rd.nil _)
          have HN8 := hn
          have HN9 := HN
          have HK9 : Hid (RK w w9 rb (.slice ao n c) L (e)) := hid ⟨HF9.out, HRD.out, HL0.out, _, _, HR9.out, by exact HLL.out, fun h => absurd h HE9.out⟩
          go_wp2_with (first | (refine wpList_strB rfl (.tmp 77) 25 9 rfl 5 Try.underlying25 Try.underlying5 str_ty v9 ([]) rfl HBO.out ?_) | (refine wpList_strB rfl (.tmp 83) 25 9 rfl 5 Try.underlying25 Try.underlying5 str_ty (.slice none 0 0) ([]) rfl HWV.out ?_))
          refine (rleft_c rb rv9 _ (e) _ HR9.out).mono ?_
          rintro e9 w10 ⟨rfl, rfl⟩
          rw [if_neg HE9.out]
          go_wp2_with fail
          refine (rerr_c rb rv9 _ (e) _ HR9.out).mono ?_
          rintro e9 w10 ⟨rfl, rfl⟩
          go_wp2_with fail
          exact ⟨⟨k + 1, _, _, _, _, _, by omega, by go_num, rfl, rfl, HN8, HN9, HK9⟩, by simp [intOf]; omega⟩
      · have HU := hid hu4
        clear hu4
        go_wp2_with fail
        refine (round_c u 4 _ (by omega) (by omega)).mono ?_
        rintro e0 w2 ⟨rfl, rfl⟩
        rw [HU.out]
        obtain ⟨hf0, hrd0, hL0, rv, l, hrr, hll, hel⟩ := H.out
        have HF := hid hf0
        have HRD := hid hrd0
        have HRR := hid hrr
        have HLL := hid hll
        have HL0 := hid hL0
        clear hf0 hrd0 hL0 hrr H
        by_cases he : e = 0
        · subst he
          obtain rfl := hel rfl
          clear hel hll
          have hgb := getbytes_c (.slice ao n c) l most
          have hgl := gbytes_len l most
          have hgo := gbytes_ok l most
          have hgx := gbytes_bad l most
          have hcode := gbytes_code l most
          generalize gbytes l most = g at *
          obtain ⟨x1, x2, x3⟩ := g
          dsimp only at hgb hgl hgo hgx hcode
          have HGB := hid (fun W (f : Fr F0 w W) => hgb W (HRD.out.keep0 f) (by have := HLL.out; omega))
          have HGL := hid hgl
          clear hgb hgl
          by_cases hx3 : x3 = 0
          · subst hx3
            have HQ := hid (hgo rfl)
            clear hgo hgx hcode
            go_wp2_with fail
            refine (HGB.out _ HF.out).mono ?_
            rintro e3 w3 ⟨v1, v2, rfl, g1, g2, g3, g4, g5⟩
            have HFW := hid (F0.trans HF.out g3)
            have HRW := hid (HRR.out.keep0 g3)
            have G1 := hid g1
            have hlt5 := HRD.out.own_lt (by have := HN.out; have := HQ.out.2; omega)
            have G5 : Hid (Rd w v2 x2) := hid (g2.back HFW.out (fun k hk => hlt5 k (g5 k hk)))
            have G6 : Hid (∀ k, v1.ownBlock = some k → k ≠ rb) := hid (fun k hk => by have := hlt5 k (g4 k hk); have := HB.out; omega)
            obtain ⟨ao2, c2, hv2, _⟩ := g2.form
            generalize hx2 : x2.length = n2 at hv2
            subst hv2
            have HX2 := hid hx2
            obtain ⟨ao1, c1, hv1, _⟩ := g1.form
            generalize hx1 : x1.length = n1 at hv1
            subst hv1
            have hc3 : w3.cell? ⟨b, o + k, none⟩ = some (.int .i64 u) := (HFW.out.cell (p := ⟨b, o + k, none⟩) hb (fun e => e)).trans HCW.out
            clear g1 g2 g3 g4 g5 hx1 hx2 hlt5
            go_wp2_with fail
            refine (round_c u 4 _ (by omega) (by omega)).mono ?_
            rintro e1 w2 ⟨rfl, rfl⟩
            rw [HU.out]
            go_wp2_with fail
            refine (rtext_c rb rv _ (0) most _ HRW.out (by have := HLL.out; omega)).mono ?_
            rintro e4 w9 ⟨rfl, ⟨rv9, rr9⟩, f9⟩
            rw [HQ.out.1] at rr9 ⊢
            dsimp only at rr9 ⊢
            have HR9 := hid rr9
            have HF9 : Hid (Fr F0 w w9) := hid (HFW.out.trans f9 (fun i hi e => by have := HB.out; omega))
            have HWV : Hid (Rd w9 (.slice ao1 n1 c1) x1) := hid (G1.out.keep f9 (fun k hk e => G6.out k hk e))
            clear rr9 f9
            have HN8 : n2 ≤ 300 := by have := HX2.out; have := HGL.out.1; have := HLL.out; omega
            have HN9 : Hid (n2 = x2.length) := hid HX2.out.symm
            have HK9 : Hid (RK w w9 rb (.slice ao2 n2 c2) x2 0) := hid ⟨HF9.out, G5.out, by have := HGL.out.1; have := HLL.out; omega, _, _, HR9.out, by have := HGL.out.1; have := HLL.out; omega, fun _ => rfl⟩
            go_wp2_with (refine wpList_strB rfl (.tmp 83) 25 9 rfl 5 Try.underlying25 Try.underlying5 str_ty (.slice ao1 n1 c1) (x1) rfl HWV.out ?_)
            refine (rleft_c rb rv9 _ 0 _ HR9.out).mono ?_
            rintro e9 w10 ⟨rfl, rfl⟩
            rw [if_pos rfl, ← HN9.out]
            go_wp2_with fail
            refine (rerr_c rb rv9 _ 0 _ HR9.out).mono ?_
            rintro e9 w10 ⟨rfl, rfl⟩
            go_wp2_with fail
            exact ⟨⟨k + 1, _, _, _, _, _, by omega, by go_num, rfl, rfl, HN8, HN9, HK9⟩, by simp [intOf]; omega⟩
          · have HQ := hid (hgx hx3)
            have he1 : (x3 == 0) = false := by simp [hx3]
            have he2 : (x3 != 0) = true := by simp [hx3]
            have HE9 := hid hx3
            clear hgo hgx hcode hx3
            obtain ⟨r9, HQ1, HQ2, HQ3⟩ := HQ.out
            have HQ := hid (And.intro HQ1 (And.intro HQ2 HQ3))
            clear HQ1 HQ2 HQ3
            go_wp2_with fail
            refine (HGB.out _ HF.out).mono ?_
            rintro e3 w3 ⟨v1, v2, rfl, g1, g2, g3, g4, g5⟩
            have HFW := hid (F0.trans HF.out g3)
            have HRW := hid (HRR.out.keep0 g3)
            have hc3 : w3.cell? ⟨b, o + k, none⟩ = some (.int .i64 u) := (HFW.out.cell (p := ⟨b, o + k, none⟩) hb (fun e => e)).trans HCW.out
            clear g1 g2 g3 g4 g5
            go_wp2_with fail
            refine (round_c u 4 _ (by omega) (by omega)).mono ?_
            rintro e1 w2 ⟨rfl, rfl⟩
            rw [HU.out]
            go_wp2_with fail
            refine (rtext_c rb rv _ (0) most _ HRW.out (by have := HLL.out; omega)).mono ?_
            rintro e4 w9 ⟨rfl, ⟨rv9, rr9⟩, f9⟩
            rw [HQ.out.1] at rr9 ⊢
            dsimp only at rr9 ⊢
            have HR9 := hid rr9
            have HF9 : Hid (Fr F0 w w9) := hid (HFW.out.trans f9 (fun i hi e => by have := HB.out; omega))
            clear rr9 f9
            have HWV : Hid (Rd w9 (.slice none 0 0) []) := hid (Rd.nil _)
            have HN8 := hn
            have HN9 := HN
            have HK9 : Hid (RK w w9 rb (.slice ao n c) l (x3)) := hid ⟨HF9.out, HRD.out, HL0.out, _, _, HR9.out, by have := HQ.out.2.2; have := HLL.out; omega, fun h => absurd h HE9.out⟩
            go_wp2_with (refine wpList_strB rfl (.tmp 83) 25 9 rfl 5 Try.underlying25 Try.underlying5 str_ty (.slice none 0 0) ([]) rfl HWV.out ?_)
            refine (rleft_c rb rv9 _ (x3) _ HR9.out).mono ?_
            rintro e9 w10 ⟨rfl, rfl⟩
            rw [if_neg HE9.out]
            go_wp2_with fail
            refine (rerr_c rb rv9 _ (x3) _ HR9.out).mono ?_
            rintro e9 w10 ⟨rfl, rfl⟩
            go_wp2_with fail
            exact ⟨⟨k + 1, _, _, _, _, _, by omega, by go_num, rfl, rfl, HN8, HN9, HK9⟩, by simp [intOf]; omega⟩
        · have he1 : (e == 0) = false := by simp [he]
          have he2 : (e != 0) = true := by simp [he]
          have HE9 := hid he
          clear he hel hll
          go_wp2_with fail
          refine (round_c u 4 _ (by omega) (by omega)).mono ?_
          rintro e1 w2 ⟨rfl, rfl⟩
          rw [HU.out]
          go_wp2_with fail
          refine (rtext_c rb rv _ (e) most _ HRR.out (by have := HLL.out; omega)).mono ?_
          rintro e4 w9 ⟨rfl, ⟨rv9, rr9⟩, f9⟩
          rw [rbytes_err _ _ _ HE9.out] at rr9 ⊢
          dsimp only at rr9 ⊢
          have HFW := HF
          have HR9 := hid rr9
          have HF9 : Hid (Fr F0 w w9) := hid (HFW.out.trans f9 (fun i hi e => by have := HB.out; omega))
          clear rr9 f9
          have HWV : Hid (Rd w9 (.slice none 0 0) []) := hid (Rd.nil _)
          have HN8 := hn
          have HN9 := HN
          have HK9 : Hid (RK w w9 rb (.slice ao n c) L (e)) := hid ⟨HF9.out, HRD.out, HL0.out, _, _, HR9.out, by exact HLL.out, fun h => absurd h HE9.out⟩
          go_wp2_with (refine wpList_strB rfl (.tmp 83) 25 9 rfl 5 Try.underlying25 Try.underlying5 str_ty (.slice none 0 0) ([]) rfl HWV.out ?_)
          refine (rleft_c rb rv9 _ (e) _ HR9.out).mono ?_
          rintro e9 w10 ⟨rfl, rfl⟩
          rw [if_neg HE9.out]
          go_wp2_with fail
          refine (rerr_c rb rv9 _ (e) _ HR9.out).mono ?_
          rintro e9 w10 ⟨rfl, rfl⟩
          go_wp2_with fail
          exact ⟨⟨k + 1, _, _, _, _, _, by omega, by go_num, rfl, rfl, HN8, HN9, HK9⟩, by simp [intOf]; omega⟩
    · obtain rfl : k = ks.length := by omega
      have HF := hid H.out.1
      clear H HN
      go_wp2_with fail
      refine (rnum_nil _).mono ?_
      rintro e1 w2 ⟨rfl, rfl⟩
      go_wp2_with fail
      refine (rword_nil _).mono ?_
      rintro e1 w2 ⟨rfl, rfl⟩
      go_wp2_with fail
      refine (rerr_nil _).mono ?_
      rintro e1 w2 ⟨rfl, rfl⟩
      go_wp2_with fail
      refine (rleft_nil _).mono ?_
      rintro e1 w2 ⟨rfl, rfl⟩
      go_wp2_with fail
      refine (rbytes_nil 5 _).mono ?_
      rintro e1 w2 ⟨rfl, rfl⟩
      go_wp2_with fail
      refine (awake3_c _).mono ?_
      rintro e1 w2 ⟨rfl, f5⟩
      have F5 := hid (F0.trans HF.out f5)
      clear f5
      go_wp2_with fail
      go_ret
      exact ⟨rfl, F5.out⟩

end Go.Proofs.Ytfalaopljodmnaa
