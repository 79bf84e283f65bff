/- linnetlaw3.CodecLimits: the walk. -/
import Derived.Test.YtfalaopljodmnaaBack
namespace Go.Proofs.Ytfalaopljodmnaa
open Go.RowKit

/-- What is written there. -/
def lim (n : Nat) : List UInt8 := leB 4 n ++ List.replicate n 0 ++ leB 4 7

theorem lim_len (n : Nat) : (lim n).length = n + 8 := by simp [lim, leB_length]; omega

theorem rnum_lim (n : Nat) (h : n ≤ 500) : rnum (lim n) 0 = (n, List.replicate n 0 ++ leB 4 7, 0) := by
  unfold lim; rw [List.append_assoc]; exact rnum_enc n _ (by omega)

theorem lim_big (n : Nat) (most : Int) (h : n ≤ 500) (hm : most < n) : rbytes (lim n) 0 most = ([], List.replicate n 0 ++ leB 4 7, 3) := by
  unfold rbytes
  rw [rnum_lim n h]
  dsimp only
  rw [if_neg (by simp), if_neg (by simp), if_pos hm]

theorem lim_fit (n : Nat) (most : Int) (h : n ≤ 500) (hm : n ≤ most) : rbytes (lim n) 0 most = (List.replicate n 0, leB 4 7, 0) := by
  have := rbytes_enc (List.replicate n 0) (leB 4 7) most (by simp; omega) (by simpa using hm)
  simpa [lim] using this

theorem lim_cut (n j : Nat) (h : n ≤ 500) (hj : j < n + 4) : ∃ r, rbytes ((lim n).take j) 0 600 = ([], r, 2) := by
  by_cases h4 : j < 4
  · refine ⟨(lim n).take j, ?_⟩
    have hq : rnum ((lim n).take j) 0 = (0, (lim n).take j, 2) := by
      unfold rnum
      rw [if_neg (by simp), if_pos (by rw [List.length_take]; omega)]
    unfold rbytes
    rw [hq]; simp
  · have ht : (lim n).take j = leB 4 n ++ (List.replicate n 0 ++ leB 4 7).take (j - 4) := by
      unfold lim
      rw [List.append_assoc, List.take_append, leB_length, List.take_of_length_le (by rw [leB_length]; omega)]
    refine ⟨(List.replicate n 0 ++ leB 4 7).take (j - 4), ?_⟩
    have hq := rnum_enc n ((List.replicate n 0 ++ leB 4 7).take (j - 4)) (by omega)
    rw [ht]
    unfold rbytes
    rw [hq]
    dsimp only
    rw [if_neg (by simp), if_pos (by rw [List.length_take]; omega)]

/-- Two Readers at once. -/
theorem Rr.other {w w' : World} {rb sb : Nat} {v : Value} {l : List UInt8} {e : Int} (h : Rr w sb v l e) (f : Fr (fun i => i = rb) w w') (h1 : sb ≠ rb) (h2 : v.ownBlock ≠ some rb) : Rr w' sb v l e :=
  h.keep f h1 (fun _ hk e => h2 (e ▸ hk))

set_option maxRecDepth 100000 in
set_option maxHeartbeats 3200000 in
theorem limits_in (n : Nat) (most cut : Int) (w : World) (hn : n ≤ 500) (hm0 : 0 ≤ most) (hm1 : most ≤ 600) :
    Calls Try.prog 5 #[.int .i64 n, .int .i64 most, .int .i64 cut] w (Yes w) := by
  go_enter Try.func5, Try.ntmps5
  go_wp2_with (refine wpList_mkB rfl (.tmp 28) (.tmp 28) 25 rfl 5 Try.underlying25 infoB n rfl rfl (by omega) ?_)
  intro w1 o1 f1 z1
  have W0 : Wr (w.alloc (.cells #[Value.slice none 0 0, Value.bool false] 48)) w.heap.size (.slice none 0 0) [] false := ⟨heap_alloc_last _ _, Ob.nil _ _, by simp [Value.ownBlock]⟩
  have W1 := hid (W0.keep0 f1)
  have O1 := hid o1
  have F1 : Hid (Fr F0 w w1) := hid (F0.trans ((Fr.refl F0 w).alloc _) f1)
  clear W0 f1 o1
  go_wp2_with fail
  refine (wbytes_c _ _ _ [] (List.replicate n 0) false _ W1.out O1.out.rd ?d1 ?d2 (by simp; omega) (by simp)).mono ?_
  case d1 => intro e; have e := rblk_own e; simp [Value.ownBlock] at e
  case d2 => intro _ hk; simp [Value.ownBlock] at hk
  rintro e w2 ⟨rfl, v2, t2⟩
  have hl2 : ([] ++ (leB 4 (List.replicate n (0 : UInt8)).length ++ List.replicate n 0)) = leB 4 n ++ List.replicate n 0 := by simp
  rw [hl2] at t2
  have F2 : Hid (Fr F0 w w2) := hid (F1.out.trans t2.fr (fun i hi e => by rcases e with e | e; omega; simp [Value.ownBlock] at e))
  have N2 : Hid (∀ k, v2.ownBlock = some k → w.heap.size ≤ k) := hid (fun k hk => by rcases t2.new k hk with e | e; simp [Value.ownBlock] at e; have := F1.out.size; omega)
  have W2 := hid t2.wr
  clear t2 hl2 W1 O1
  go_wp2_with fail
  refine (wnum_ok _ _ _ _ 7 _ W2.out (by omega) (by omega) (by simp [leB_length]; omega)).mono ?_
  rintro e w3 ⟨rfl, v3, t3⟩
  have F3 : Hid (Fr F0 w w3) := hid (F2.out.trans t3.fr (fun i hi e => by rcases e with e | e; omega; have := N2.out i e; omega))
  have W3 : Hid (Wr w3 w.heap.size v3 (lim n) false) := hid t3.wr
  clear t3 W2
  go_wp2_with fail
  refine (wdone_ok _ _ _ _ W3.out (by rw [lim_len]; omega)).mono ?_
  rintro e w4 ⟨v4, rfl, h1, h2, h3⟩
  have F4 := hid (F0.trans F3.out h2)
  have R4 : Hid (Rd w4 v4 (lim n)) := hid h1.rd
  obtain ⟨ao4, c4, hv4, hlc4⟩ := h1.rd.form
  rw [lim_len] at hv4 hlc4
  subst hv4
  clear h1 h2 h3 W3
  go_wp2_with fail
  refine (rnew_n _ (lim n) _ R4.out (by rw [lim_len]; omega)).mono ?_
  rintro e w5 ⟨rb, rv, rfl, r1, r2, r3, r4, r5⟩
  have R5 := hid (R4.out.keep0 r3)
  have F5 := hid (F0.trans F4.out r3)
  have RR5 := hid r1
  have HB : Hid (w.heap.size ≤ rb) := hid (by have := F4.out.size; omega)
  have hrb5 := r5
  clear r1 r2 r3 r4 r5
  go_wp2_with fail
  refine (round_c cut (n + 4) _ (by omega) (by omega)).mono ?_
  rintro e w6 ⟨rfl, rfl⟩
  have hj0 : 0 ≤ cut % ((n : Int) + 4) := Int.emod_nonneg _ (by omega)
  have hj1 : cut % ((n : Int) + 4) < (n : Int) + 4 := Int.emod_lt_of_pos _ (by omega)
  generalize cut % ((n : Int) + 4) = j at *
  obtain ⟨j, rfl⟩ := Int.eq_ofNat_of_zero_le hj0
  go_wp2_with (refine wpList_slB rfl (.tmp 47) none (some (.tmp 51)) 25 rfl 5 Try.underlying25 infoB _ (lim n) rfl R5.out 0 j (.inl ⟨rfl, rfl⟩) (.inr rfl) (Nat.zero_le _) (by rw [lim_len]; omega) ?_)
  intro a6 m6 c6 H6
  go_wp2_with fail
  refine (rnew_n _ ((lim n).take j) _ (by have := H6.out.1; simpa using this) (by rw [List.length_take, lim_len]; omega)).mono ?_
  rintro e w7 ⟨sb, sv, rfl, s1, s2, s3, s4, s5⟩
  have F7 := hid (F0.trans F5.out s3)
  have RR7 := hid (RR5.out.keep0 s3)
  have SS7 := hid s1
  have SB : Hid (w.heap.size ≤ sb) := hid (by have := F5.out.size; omega)
  have SN : Hid (sb ≠ rb ∧ sv.ownBlock ≠ some rb) := hid ⟨by omega, fun e => by have := s4 rb e; omega⟩
  clear s1 s2 s3 s4 s5 hrb5
  obtain ⟨jr, hjr⟩ := lim_cut n j hn (by omega)
  have HJ := hid hjr
  have HJL : Hid (((lim n).take j).length ≤ 1000) := hid (by rw [List.length_take, lim_len]; omega)
  clear hjr
  by_cases hbig : most < n
  · have hq := lim_big n most hn hbig
    go_wp2_with fail
    refine (rbytes_c rb rv _ 0 most _ RR7.out (by rw [lim_len]; omega)).mono ?_
    rintro e w8 ⟨v8, rfl, b1, _, _, ⟨rv8, b4⟩, b5⟩
    rw [hq] at b1 b4
    have F8 := hid (F7.out.trans b5 (fun i hi e => by have := HB.out; omega))
    have SS8 := hid (SS7.out.other b5 SN.out.1 SN.out.2)
    have RR8 := hid b4
    obtain ⟨ao8, c8, hv8, _⟩ := b1.rd.form
    have hz8 : ([] : List UInt8).length = 0 := rfl
    rw [hz8] at hv8
    subst hv8
    have hl8 : Hid ((List.replicate n (0 : UInt8) ++ leB 4 7).length ≤ 1000) := hid (by simp [leB_length]; omega)
    clear b1 b4 b5 hq
    go_wp2_with fail
    refine (rerr_c rb rv8 _ 3 _ RR8.out).mono ?_
    rintro e w9 ⟨rfl, rfl⟩
    go_wp2_with fail
    refine (rnum_c rb rv8 _ 3 _ RR8.out (by have := hl8.out; omega)).mono ?_
    rintro e w9 ⟨rfl, ⟨rv9, b4⟩, b5⟩
    have hq : rnum (List.replicate n (0 : UInt8) ++ leB 4 7) 3 = (0, List.replicate n 0 ++ leB 4 7, 3) := by simp [rnum]
    rw [hq] at b4 ⊢
    have F9 := hid (F8.out.trans b5 (fun i hi e => by have := HB.out; omega))
    have SS9 := hid (SS8.out.other b5 SN.out.1 SN.out.2)
    have RR9 := hid b4
    clear b4 b5 hq
    go_wp2_with fail
    refine (rleft_c rb rv9 _ 3 _ RR9.out).mono ?_
    rintro e w10 ⟨rfl, rfl⟩
    go_wp2_with fail
    refine (rtext_c sb sv _ 0 600 _ SS9.out (by have := HJL.out; omega)).mono ?_
    rintro e w10 ⟨rfl, ⟨sv10, b4⟩, b5⟩
    rw [HJ.out] at b4 ⊢
    have F10 := hid (F9.out.trans b5 (fun i hi e => by have := SB.out; omega))
    have SS10 := hid b4
    clear b4 b5
    go_wp2_with fail
    refine (rerr_c sb sv10 _ 2 _ SS10.out).mono ?_
    rintro e w11 ⟨rfl, rfl⟩
    go_wp2_with fail
    refine (awake3_c _).mono ?_
    rintro e w11 ⟨rfl, f5⟩
    have F11 := hid (F0.trans F10.out f5)
    clear f5
    go_wp2_with fail
    go_ret
    exact ⟨rfl, F11.out⟩
  · have hq := lim_fit n most hn (by omega)
    go_wp2_with fail
    refine (rbytes_c rb rv _ 0 most _ RR7.out (by rw [lim_len]; omega)).mono ?_
    rintro e w8 ⟨v8, rfl, b1, _, _, ⟨rv8, b4⟩, b5⟩
    rw [hq] at b1 b4
    have F8 := hid (F7.out.trans b5 (fun i hi e => by have := HB.out; omega))
    have SS8 := hid (SS7.out.other b5 SN.out.1 SN.out.2)
    have RR8 := hid b4
    obtain ⟨ao8, c8, hv8, _⟩ := b1.rd.form
    have hz8 : (List.replicate n (0 : UInt8)).length = n := by simp
    dsimp only at hv8
    rw [hz8] at hv8
    subst hv8
    clear b1 b4 b5 hq hz8
    go_wp2_with fail
    refine (rnum_c rb rv8 _ 0 _ RR8.out (by simp [leB_length])).mono ?_
    rintro e w9 ⟨rfl, ⟨rv9, b4⟩, b5⟩
    have hq : rnum (leB 4 7) 0 = (7, [], 0) := by decide
    rw [hq] at b4 ⊢
    have F9 := hid (F8.out.trans b5 (fun i hi e => by have := HB.out; omega))
    have SS9 := hid (SS8.out.other b5 SN.out.1 SN.out.2)
    have RR9 := hid b4
    clear b4 b5 hq
    go_wp2_with fail
    refine (rerr_c rb rv9 _ 0 _ RR9.out).mono ?_
    rintro e w10 ⟨rfl, rfl⟩
    go_wp2_with fail
    refine (rtext_c sb sv _ 0 600 _ SS9.out (by have := HJL.out; omega)).mono ?_
    rintro e w10 ⟨rfl, ⟨sv10, b4⟩, b5⟩
    rw [HJ.out] at b4 ⊢
    have F10 := hid (F9.out.trans b5 (fun i hi e => by have := SB.out; omega))
    have SS10 := hid b4
    clear b4 b5
    go_wp2_with fail
    refine (rerr_c sb sv10 _ 2 _ SS10.out).mono ?_
    rintro e w11 ⟨rfl, rfl⟩
    go_wp2_with fail
    refine (awake3_c _).mono ?_
    rintro e w11 ⟨rfl, f5⟩
    have F11 := hid (F0.trans F10.out f5)
    clear f5
    go_wp2_with fail
    go_ret
    exact ⟨rfl, F11.out⟩

theorem limits_c (n most cut : Int) (w : World) : Calls Try.prog 5 #[.int .i64 n, .int .i64 most, .int .i64 cut] w (Yes w) := by
  by_cases h1 : n < 0
  · go_enter Try.func5, Try.ntmps5
    go_wp2_with fail
    refine (awake3_c _).mono ?_
    rintro e w2 ⟨rfl, f2⟩
    have F2 := hid f2
    clear f2
    go_wp2_with fail
    go_ret
    exact ⟨rfl, F2.out⟩
  · by_cases h2 : 500 < n
    · go_enter Try.func5, Try.ntmps5
      go_wp2_with fail
      refine (awake3_c _).mono ?_
      rintro e w2 ⟨rfl, f2⟩
      have F2 := hid f2
      clear f2
      go_wp2_with fail
      go_ret
      exact ⟨rfl, F2.out⟩
    · by_cases h3 : most < 0
      · go_enter Try.func5, Try.ntmps5
        go_wp2_with fail
        refine (awake3_c _).mono ?_
        rintro e w2 ⟨rfl, f2⟩
        have F2 := hid f2
        clear f2
        go_wp2_with fail
        go_ret
        exact ⟨rfl, F2.out⟩
      · by_cases h4 : 600 < most
        · go_enter Try.func5, Try.ntmps5
          go_wp2_with fail
          refine (awake3_c _).mono ?_
          rintro e w2 ⟨rfl, f2⟩
          have F2 := hid f2
          clear f2
          go_wp2_with fail
          go_ret
          exact ⟨rfl, F2.out⟩
        · obtain ⟨n, rfl⟩ := Int.eq_ofNat_of_zero_le (show 0 ≤ n by omega)
          exact limits_in n most cut w (by omega) (by omega) (by omega)

end Go.Proofs.Ytfalaopljodmnaa
