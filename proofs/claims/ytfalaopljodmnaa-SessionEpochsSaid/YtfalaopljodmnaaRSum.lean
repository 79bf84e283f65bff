/- SHA-256, the reference's: Sum. -/
import Derived.Test.YtfalaopljodmnaaRLoop
namespace Go.Proofs.Ytfalaopljodmnaa
open Go.RowKit

set_option maxRecDepth 100000 in
set_option maxHeartbeats 16000000 in
theorem rsum_c (v : Value) (l : List UInt8) (w : World) (hr : Rd w v l) (hl : l.length ≤ 35184372088832) :
    Calls Try.prog 75 #[v] w fun e w' => RSummed w l e w' := by
  obtain ⟨ao, c, rfl, _⟩ := hr.form
  obtain ⟨n, HNl⟩ : ∃ n, Hid (l.length = n) := ⟨_, hid rfl⟩
  rw [HNl.out] at hr hl ⊢
  have HR := hid hr
  have HL := hid hl
  clear hr hl
  go_enter Try.func75, Try.ntmps75
  go_wp2_with fail
  refine (rounds_c _).mono ?_
  rintro e w1 ⟨rfl, f1⟩
  have hk8 : (kArr).all (·.oneCell') = true := by kernel_rfl
  have hks : kArr.size = 64 := rfl
  have HI := hid info64
  have HO := hid hk8
  have HS := hid hks
  clear hk8 hks
  obtain ⟨K, HK⟩ : ∃ K, Hid (kArr = K) := ⟨_, hid rfl⟩
  rw [HK.out] at HI HO HS ⊢
  go_wp2_with (first | (refine wpList_storeRow rfl 129 (.tmp 3) (.tmp 23) rfl w1.heap.size _ K 129 (heap_alloc_last _ _) rfl rfl HS.out HI.out HO.out ?_))
  intro w2 hg2 hf2
  have HG2 := hid hg2
  have HF2 := hid (F0.there f1 (((Fr.refl (fun k => k = w1.heap.size) w1).alloc _).trans hf2 (fun _ _ e => e)) (fun i e => by have := f1.size; omega))
  have HB1 := hid (show w.heap.size ≤ w1.heap.size from f1.size)
  clear hg2 hf2 f1
  generalize w1.heap.size = kb at *
  have H8 := hid (iv.one)
  obtain ⟨V, HV⟩ : ∃ V, Hid (iv.arr = V) := ⟨_, hid rfl⟩
  have H8s := hid (info8as iv)
  have H8n : Hid (iv.arr.size = 8) := hid rfl
  rw [HV.out] at H8 H8s H8n
  go_wp2_with (first | (refine wpList_storeRow rfl 131 (.tmp 4) (.tmp 24) rfl w2.heap.size _ V 131 (heap_alloc_last _ _) rfl (by rw [← HV.out]; rfl) H8n.out H8s.out H8.out ?_))
  intro w3 hg3 hf3
  have hbn : kb ≠ w2.heap.size := by have := lt_of_heap HG2.out; omega
  have ff := ((Fr.refl (fun k => k = w2.heap.size) w2).alloc (.cells #[.int .u32 0, .int .u32 0, .int .u32 0, .int .u32 0, .int .u32 0, .int .u32 0, .int .u32 0, .int .u32 0] 131)).trans hf3 (fun _ _ e => e)
  have R3 := hid (show RS w w3 kb w2.heap.size (.slice none 0 0) [] iv from ⟨F0.there HF2.out ff (fun i e => by have := HF2.out.size; omega), HB1.out, HF2.out.size, hbn, by rw [HK.out]; exact ff.heap HG2.out hbn, by rw [HV.out]; exact hg3, Ob.nil _ _, fun k hk => by simp [Value.ownBlock] at hk⟩)
  clear hg3 hf3 ff hbn HG2 HF2 HB1 H8 H8s H8n HI HO HS HK HV
  generalize w2.heap.size = hb at *
  go_wp2_with (at_builtin; first | (refine wpList_appB rfl (.tmp 25) (.tmp 26) 25 rfl 5 Try.underlying25 infoB _ (.slice ao n c) [] l rfl rfl (Ob.empty _ _) ((HR.out.keep0 R3.out.fr).keep0 ((Fr.refl _ _).alloc _)) (by have := HL.out; have := HNl.out; simp; omega) ?_))
  intro v4 w4 h4 g4 e4 _
  have r4 := ((R3.out.keep ((Fr.refl F0 w3).alloc (.cells #[] 5))).swap (Ob.empty w3 5) (fun k hk => by
    have hk : w3.heap.size = k := by simpa [Value.ownBlock] using hk
    have := R3.out.fr.size
    have := lt_of_heap R3.out.hk
    have := lt_of_heap R3.out.hh
    omega)).grow (M' := l) (by simp) h4 g4 e4
  obtain ⟨a4, m4, c4, rfl⟩ := h4.form
  have R4 := hid r4
  clear R3 r4 h4 g4 e4
  go_wp2_with (at_builtin; first | (refine wpList_appB rfl (.tmp 27) (.tmp 28) 25 rfl 5 Try.underlying25 infoB _ (.slice (some ⟨w4.heap.size, 0, none⟩) 1 1) l [128] rfl rfl (R4.out.ob.keep0 ((Fr.refl _ _).alloc _)) (Rd.one w4 128 5) (by have := HL.out; have := HNl.out; simp; omega) ?_))
  intro v5 w5 h5 g5 e5 _
  have r5 := (R4.out.keep ((Fr.refl F0 w4).alloc (.cells #[.int .u8 128] 5))).grow (M' := l ++ [128]) (by simp) h5 g5 e5
  have hf := h5.rd.form
  rw [show (l ++ [(128 : UInt8)]).length = n + 1 from by simp [HNl.out]] at hf
  obtain ⟨a5, c5, rfl, _⟩ := hf
  have R5 := hid r5
  clear R4 r5 h5 g5 e5
  have hn := HL.out
  go_wp2_with fail
  have HZ := hid (show padZ n < 64 ∧ (n + 1 + padZ n) % 64 = 56 from by unfold padZ; omega)
  go_loopw [5] (fun x wr => ∃ (j : Nat) (a : Option Addr) (c : Nat), j ≤ padZ n ∧ x = .slice a (n + 1 + j) c ∧ Hid (RS w wr kb hb (.slice a (n + 1 + j) c) (l ++ 128 :: List.replicate j 0) iv)) (fun x _ => n + 65 - vlen x)
  case atStart => exact ⟨0, _, _, Nat.zero_le _, rfl, R5⟩
  case round =>
    clear R5
    obtain ⟨j, a, c, hj, rfl, H⟩ := hrel
    have hz := HZ.out
    by_cases ht : (n + 1 + j) % 64 = 56
    · have hjz : j = padZ n := by omega
      have ht' : ((n : Int) + 1 + (j : Int)) % 64 = 56 := by omega
      have H' := hid (show RS w wr kb hb (.slice a (n + 1 + j) c) (l ++ 128 :: List.replicate (padZ n) 0) iv from by rw [← hjz]; exact H.out)
      have HPL := hid (show (l ++ 128 :: List.replicate (padZ n) (0 : UInt8)).length ≤ 35184372088932 from by have := HNl.out; have := hz.1; simp; omega)
      obtain ⟨PZ, HPZ⟩ : ∃ PZ : List UInt8, Hid (l ++ 128 :: List.replicate (padZ n) 0 = PZ) := ⟨_, hid rfl⟩
      rw [HPZ.out] at H' HPL
      clear hz H HZ hjz
      go_wp2_with fail
      go_loopw [5, 7] (fun x y wr => ∃ (j : Nat) (a : Option Addr) (c L : Nat) (i : Int), j ≤ 8 ∧ i = 7 - j ∧ y = .int .i64 i ∧ x = .slice a L c ∧ Hid (RS w wr kb hb (.slice a L c) (PZ ++ beN (n * 8) j) iv)) (fun _ y _ => (intOf y + 1).toNat)
      case atStart => exact ⟨0, _, _, _, 7, by omega, rfl, rfl, rfl, by rw [show beN (n * 8) 0 = [] from rfl, List.append_nil]; exact H'⟩
      case round =>
        clear H' ht ht' hj
        obtain ⟨j, a, c, L, i, hj, hi, rfl, rfl, H⟩ := hrel
        by_cases hlt : j < 8
        · skip
          --{{
          obtain ⟨i, rfl⟩ := Int.eq_ofNat_of_zero_le (show 0 ≤ i by omega)
          have hi' : i = 7 - j := by omega
          have e8 : IntKind.i64.wrap (8 * (i : Int)) = 8 * (i : Int) := IntWalk.i64_in _ (by omega)
          have HI := hid hi'
          have i7 : i ≤ 7 := by omega
          clear hi hi'
          go_wp2_with (at_builtin; refine wpList_appB rfl (.tmp 45) (.tmp 51) 25 rfl 5 Try.underlying25 infoB _ (.slice (some ⟨wr.heap.size, 0, none⟩) 1 1) (PZ ++ beN (n * 8) j) [UInt8.ofNat (n * 8 / 2 ^ (8 * (7 - j)))] rfl rfl ?c1 ?c2 ?c3 ?_)
          case c1 => exact H.out.ob.keep0 ((Fr.refl _ _).alloc _)
          case c2 => have := Rd.one wr (UInt8.ofNat (n * 8 / 2 ^ (8 * (7 - j)))) 5; rw [b8_ofNat, ← HI.out] at this; rw [← HI.out]; simpa using this
          case c3 => have := HPL.out; simp [beN_len]; omega
          intro v3 w3 h3 g3 e3 _
          have r3 := (H.out.keep ((Fr.refl F0 wr).alloc (.cells #[.int .u8 (((n : Int) * 8 / 2 ^ (8 * i)) % 256)] 5))).grow (M' := PZ ++ beN (n * 8) (j + 1)) (by simp) (by rw [beN]; exact h3) g3 e3
          obtain ⟨a3, L3, c3, rfl⟩ := h3.form
          have H3 := hid r3
          clear h3 g3 e3 r3
          go_wp2_with fail
          exact ⟨⟨j + 1, _, _, _, (i : Int) - 1, by omega, by have := HI.out; omega, rfl, rfl, H3⟩, by simp [intOf]⟩
          --}}
        · have hj8 : j = 8 := by omega
          have hi0 : ¬ 0 ≤ i := by omega
          have H' := hid (show RS w wr kb hb (.slice a L c) (PZ ++ beN (n * 8) 8) iv from hj8 ▸ H.out)
          have HPD : Hid (PZ ++ beN (n * 8) 8 = l ++ padOf n) := hid (by rw [← HPZ.out]; simp [padOf])
          rw [HPD.out] at H'
          clear H hj8 hlt hj
          obtain ⟨Q, hQ⟩ : ∃ Q, (l ++ padOf n).length = 64 * Q := ⟨(l ++ padOf n).length / 64, by
            have := HNl.out
            have : (l ++ padOf n).length = n + 1 + padZ n + 8 := by simp [padOf, beN_len]; omega
            have hz : padZ n < 64 ∧ (n + 1 + padZ n) % 64 = 56 := by unfold padZ; omega
            omega⟩
          have hLM := H'.out.ob.rd.len
          have HML := hid (show (l ++ padOf n).length ≤ 35184372088932 from by
            have := HNl.out
            have : (l ++ padOf n).length = n + 1 + padZ n + 8 := by simp [padOf, beN_len]; omega
            have hz : padZ n < 64 := by unfold padZ; omega
            omega)
          have HD := hid (show sha l = outN (blk iv (l ++ padOf n) Q) 8 from by unfold sha; rw [HNl.out, hQ]; congr 2; omega)
          obtain ⟨M, HMe⟩ : ∃ M, Hid (l ++ padOf n = M) := ⟨_, hid rfl⟩
          rw [HMe.out] at H' hQ hLM HML HD
          have HLQ := hid (hLM.trans hQ)
          have HLM := hid hLM
          have hL0 := (hLM ▸ HML.out : L ≤ 35184372088932)
          clear hQ hLM HPD HML
          go_wp2_with fail
          go_loopw [8] (fun x wr => ∃ (k p : Nat), k ≤ Q ∧ x = .int .i64 p ∧ Hid (p = 64 * k) ∧ Hid (RS w wr kb hb (.slice a L c) M (blk iv M k))) (fun x _ => L - (intOf x).toNat)
          case atStart => exact ⟨0, 0, by omega, rfl, hid rfl, H'⟩
          case round =>
            clear H' hi0 hi
            rename World => W0
            obtain ⟨k, p, hk, rfl, HP, H⟩ := hrel
            by_cases hlt : k < Q
            · have hpL : (p : Int) < (L : Int) := by have := HP.out; have := HLQ.out; omega
              have HPL := hid (show p + 64 ≤ L from by have := HP.out; have := HLQ.out; omega)
              obtain ⟨B, HB⟩ : ∃ B, Hid ((M.drop p).take 64 = B) := ⟨_, hid rfl⟩
              have HC : Hid (∃ g o, a = some ⟨g, o, none⟩ ∧ ∀ (i : Nat) (u : UInt8), M[i]? = some u → W0.cell? ⟨g, o + i, none⟩ = some (.int .u8 (u.toNat : Int))) := by
                obtain ⟨g, o, cc, ha, _, hc⟩ := H.out.ob.rd.open (by have := HLM.out; omega)
                injection ha with ha _ _
                exact hid ⟨g, o, ha, hc⟩
              obtain ⟨g, o, rfl, hcell⟩ := HC.out
              have HC := hid hcell
              clear hcell
              go_wp2_with fail
              refine rl10 (W0 := W0) (B := B) (hid ⟨heap_alloc_last _ _, (Fr.refl _ _).alloc _⟩) HC HB HPL HLM hL0 (hid (fun wr HA => ?_))
              go_wp2_with fail
              refine rl11 HA (hid (fun wr HA => ?_))
              have hA2 := HA.out.2
              have R5 := hid (H.out.keep hA2)
              have HSok := hid (show (blk iv M k).ok from blk_ok (by unfold iv S8.ok W32; simp) M k)
              have hSb : blk iv M (k + 1) = stepS (blk iv M k) B := by rw [← HB.out, HP.out]; rfl
              have HSb := hid hSb
              clear hA2 hSb
              obtain ⟨S, HSe⟩ : ∃ S, Hid (blk iv M k = S) := ⟨_, hid rfl⟩
              rw [HSe.out] at R5 HSok HSb
              have HI8 := hid (info8as S)
              have H18 := hid (S.one)
              have HS8 : Hid (S.arr.size = 8) := hid rfl
              obtain ⟨A, HAr⟩ : ∃ A, Hid (S.arr = A) := ⟨_, hid rfl⟩
              have HHh : Hid (wr.heap[hb]? = some (.cells S.arr 131 (0, 0))) := hid R5.out.hh
              rw [HAr.out] at HI8 H18 HS8 HHh
              go_wp2_with (first | (refine wpList_loadRow rfl 131 (.tmp 4) rfl hb rfl 131 A _ _ HHh.out Try.underlying131 rfl HI8.out ?_) | (refine wpList_storeRow rfl 131 (.tmp 14) (.tmp 159) rfl wr.heap.size _ A 131 (heap_alloc_last _ _) rfl rfl HS8.out HI8.out H18.out ?_))
              intro w6 hg6 hf6
              have f6 := ((Fr.refl (fun k => k = wr.heap.size) wr).alloc (.cells #[.int .u32 0, .int .u32 0, .int .u32 0, .int .u32 0, .int .u32 0, .int .u32 0, .int .u32 0, .int .u32 0] 131)).trans hf6 (fun _ _ e => e)
              have hkl := lt_of_heap R5.out.hk
              have hhl := lt_of_heap R5.out.hh
              have hwl := lt_of_heap HA.out.1
              have hhl0 := lt_of_heap H.out.hh
              have RV6 := hid (show RV w w6 kb hb (.slice (some ⟨g, o, none⟩) L c) M S W0.heap.size wr.heap.size B S from
                ⟨{ R5.out with fr := F0.there R5.out.fr f6 (fun i e => by have := R5.out.fr.size; omega), hk := f6.heap R5.out.hk (by omega), hh := f6.heap R5.out.hh (by omega), ob := R5.out.ob.keep f6 (fun k hk => by have := R5.out.ob.lt k hk; omega) },
                  f6.heap HA.out.1 (by omega), by rw [HAr.out]; exact hg6, by omega, by omega, by omega, by omega, R5.out.fr.size, fun k hk => by have := R5.out.ob.lt k hk; omega⟩)
              clear f6 hg6 hf6 hkl hhl hwl hhl0 HHh HS8 H18 HI8 HAr R5 HA
              generalize wr.heap.size = vb at *
              generalize W0.heap.size = wb at *
              go_wp2_with fail
              refine rl15 RV6 HSok (hid (fun wr HV => ?_))
              clear RV6
              have H7 := hid (show RV w wr kb hb (.slice (some ⟨g, o, none⟩) L c) M (addN S (rndn S B 64) 0) wb vb B (rndn S B 64) from HV.out)
              have hTo : (rndn S B 64).ok := rndn_ok S B HSok.out 64
              have hE : stepS S B = addN S (rndn S B 64) 8 := addN_comm _ _
              rw [hE] at HSb
              generalize rndn S B 64 = T at *
              clear HV hE
              have HTo := hid hTo
              clear hTo
              go_wp2_with fail
              refine rl20 H7 HSok HTo (hid (fun wr HV => ?_))
              clear H7
              have H8 := hid (show RS w wr kb hb (.slice (some ⟨g, o, none⟩) L c) M (blk iv M (k + 1)) from by rw [HSb.out]; exact HV.out.rs)
              clear HV
              have hpl := HPL.out
              have hkq : k + 1 ≤ Q := hlt
              go_wp2_with fail
              exact ⟨⟨k + 1, p + 64, hkq, by go_num, hid (by have := HP.out; omega), H8⟩, by simp [intOf]; omega⟩
            · have hkQ : k = Q := by omega
              have hpL : ¬ (p : Int) < (L : Int) := by have := HP.out; have := HLQ.out; omega
              have HSok := hid (show (blk iv M Q).ok from blk_ok (by unfold iv S8.ok W32; simp) M Q)
              have H8 := hid (show RS w W0 kb hb (.slice none 0 0) (outN (blk iv M Q) 0) (blk iv M Q) from (hkQ ▸ H.out).swap (Ob.nil _ _) (fun k hk => by simp [Value.ownBlock] at hk))
              generalize blk iv M Q = S at *
              clear H hkQ hlt hk
              go_wp2_with fail
              refine rl21 H8 HSok (hid (fun wr a L c H => ?_))
              have HE := hid (show RSummed w l (.returned (.slice a L c)) wr from ⟨_, rfl, by rw [HD.out]; exact H.out.ob, H.out.fr, fun k hk => (H.out.new k hk).1⟩)
              clear H
              go_wp2_with fail
              go_ret
              exact HE.out
    · skip
      --{{
      have hjz : j + 1 ≤ padZ n := by
        rcases Nat.lt_or_ge j (padZ n) with h | h
        · omega
        · exact absurd (by have : j = padZ n := by omega
                           rw [this]; exact hz.2) ht
      have ht' : ¬ ((n : Int) + 1 + (j : Int)) % 64 = 56 := by omega
      have HZ0 := hid hz.1
      clear hz
      go_wp2_with (at_builtin; refine wpList_appB rfl (.tmp 34) (.tmp 35) 25 rfl 5 Try.underlying25 infoB _ (.slice (some ⟨wr.heap.size, 0, none⟩) 1 1) (l ++ 128 :: List.replicate j 0) [0] rfl rfl ?c1 ?c2 ?c3 ?_)
      case c1 => exact H.out.ob.keep0 ((Fr.refl _ _).alloc _)
      case c2 => exact Rd.one wr 0 5
      case c3 => have := HZ0.out; have := HNl.out; simp; omega
      intro v3 w3 h3 g3 e3 _
      have r3 := (H.out.keep ((Fr.refl F0 wr).alloc (.cells #[.int .u8 0] 5))).grow (by simp) h3 g3 e3
      have hM : l ++ 128 :: (List.replicate j (0 : UInt8) ++ [0]) = l ++ 128 :: List.replicate (j + 1) 0 := by rw [List.replicate_succ']
      have hf := h3.rd.form
      have hlen : (l ++ 128 :: List.replicate (j + 1) (0 : UInt8)).length = n + 1 + (j + 1) := by have := HNl.out; simp; omega
      rw [hM] at r3 hf
      rw [hlen] at hf
      obtain ⟨a3, c3, rfl, _⟩ := hf
      have H3 := hid r3
      clear h3 g3 e3 r3 hM hlen
      go_wp2_with fail
      exact ⟨⟨j + 1, _, _, hjz, rfl, H3⟩, by simp only [vlen]; have := HZ0.out; omega⟩
      --}}

end Go.Proofs.Ytfalaopljodmnaa
