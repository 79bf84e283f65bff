/- SHA-256, the program's: step. -/
import Derived.Test.YtfalaopljodmnaaShaT
namespace Go.Proofs.Ytfalaopljodmnaa
open Go.RowKit

theorem info8' : (Try.prog.info? 134).map (·.size) = some 8 := by kernel_rfl
theorem info8 (s : S8) : (Try.prog.info? 134).map (·.size) = some s.arr.size := info8'
theorem S8.one (s : S8) : s.arr.all (·.oneCell') = true := by
  rw [Array.all_eq_true_iff_forall_mem]
  intro x hx
  simp only [S8.arr, List.mem_toArray, List.mem_cons, List.not_mem_nil, or_false] at hx
  rcases hx with rfl | rfl | rfl | rfl | rfl | rfl | rfl | rfl <;> rfl
theorem info64w (l : List UInt8) : (Try.prog.info? 129).map (·.size) = some (arrW l 64).size := by rw [arrW_size l 64 (by omega)]; exact info64

/-- One round. -/
def rdn (kk ww : Int) (s : S8) : S8 :=
  let one := s.h + bits .xor .u32 (bits .xor .u32 (rt 6 s.e) (rt 11 s.e)) (rt 25 s.e) + bits .xor .u32 (bits .and .u32 s.e s.f) (bits .and .u32 (bits .xor .u32 IntKind.u32.max s.e) s.g) + kk + ww
  let two := bits .xor .u32 (bits .xor .u32 (rt 2 s.a) (rt 13 s.a)) (rt 22 s.a) + bits .xor .u32 (bits .xor .u32 (bits .and .u32 s.a s.b) (bits .and .u32 s.a s.c)) (bits .and .u32 s.b s.c)
  ⟨(one + two) % 4294967296, s.a, s.b, s.c, (s.d + one) % 4294967296, s.e, s.f, s.g⟩

def rndn (s : S8) (l : List UInt8) : Nat → S8
  | 0 => s
  | n + 1 => rdn (kL.getD n 0) ((sched l 64).getD n 0) (rndn s l n)

theorem rdn_ok (kk ww : Int) (s : S8) (h : s.ok) : (rdn kk ww s).ok := ⟨ad_w _ _, h.1, h.2.1, h.2.2.1, ad_w _ _, h.2.2.2.2.1, h.2.2.2.2.2.1, h.2.2.2.2.2.2.1⟩
theorem rndn_ok (s : S8) (l : List UInt8) (h : s.ok) : ∀ n, (rndn s l n).ok
  | 0 => h
  | n + 1 => rdn_ok _ _ _ (rndn_ok s l h n)

/-- Word number k. -/
def S8.get (s : S8) : Nat → Int
  | 0 => s.a | 1 => s.b | 2 => s.c | 3 => s.d | 4 => s.e | 5 => s.f | 6 => s.g | _ => s.h

/-- t, of which the first n words have those of s added. -/
def addN (t s : S8) (n : Nat) : S8 :=
  ⟨if 0 < n then ad t.a s.a else t.a, if 1 < n then ad t.b s.b else t.b, if 2 < n then ad t.c s.c else t.c, if 3 < n then ad t.d s.d else t.d,
   if 4 < n then ad t.e s.e else t.e, if 5 < n then ad t.f s.f else t.f, if 6 < n then ad t.g s.g else t.g, if 7 < n then ad t.h s.h else t.h⟩

theorem S8.arr_get (s : S8) : ∀ k, k < 8 → s.arr[k]? = some (.int .u32 (s.get k))
  | 0, _ => rfl | 1, _ => rfl | 2, _ => rfl | 3, _ => rfl | 4, _ => rfl | 5, _ => rfl | 6, _ => rfl | 7, _ => rfl
  | k + 8, h => by omega

theorem addN_get (t s : S8) : ∀ k, k < 8 → (addN t s k).arr[k]? = some (.int .u32 (t.get k))
  | 0, _ => rfl | 1, _ => rfl | 2, _ => rfl | 3, _ => rfl | 4, _ => rfl | 5, _ => rfl | 6, _ => rfl | 7, _ => rfl
  | k + 8, h => by omega

theorem addN_set (t s : S8) : ∀ k, k < 8 → (addN t s k).arr.setIfInBounds k (.int .u32 ((t.get k + s.get k) % 4294967296)) = (addN t s (k + 1)).arr
  | 0, _ => rfl | 1, _ => rfl | 2, _ => rfl | 3, _ => rfl | 4, _ => rfl | 5, _ => rfl | 6, _ => rfl | 7, _ => rfl
  | k + 8, h => by omega

theorem addN_ok (t s : S8) : (addN t s 8).ok := ⟨ad_w _ _, ad_w _ _, ad_w _ _, ad_w _ _, ad_w _ _, ad_w _ _, ad_w _ _, ad_w _ _⟩

theorem S8.get_w (s : S8) (h : s.ok) : ∀ k, W32 (s.get k)
  | 0 => h.1 | 1 => h.2.1 | 2 => h.2.2.1 | 3 => h.2.2.2.1 | 4 => h.2.2.2.2.1 | 5 => h.2.2.2.2.2.1 | 6 => h.2.2.2.2.2.2.1 | 7 => h.2.2.2.2.2.2.2
  | _ + 8 => h.2.2.2.2.2.2.2

/-- A block taken in. -/
def stepS (s : S8) (l : List UInt8) : S8 := addN (rndn s l 64) s 8

theorem stepS_ok (s : S8) (l : List UInt8) : (stepS s l).ok := addN_ok _ _

/-- What holds in the rounds: s the first state, t the one now. -/
structure Rds (w : World) (l : List UInt8) (s : S8) (W : World) (b5 b6 b7 : Nat) (t : S8) : Prop where
  fr : Fr F0 w W
  hs : W.heap[w.heap.size]? = some (.cells s.arr 134 (0, 0))
  ho : ∃ A, W.heap[w.heap.size + 1]? = some (.cells A 134 (0, 0)) ∧ A.size = 8
  hk : W.heap[b5]? = some (.cells kArr 129 (0, 0))
  hw : W.heap[b6]? = some (.cells (arrW l 64) 129 (0, 0))
  ht : W.heap[b7]? = some (.cells t.arr 134 (0, 0))
  n5 : b7 ≠ b5
  n6 : b7 ≠ b6
  l5 : w.heap.size + 2 ≤ b5
  l6 : w.heap.size + 2 ≤ b6
  l7 : w.heap.size + 2 ≤ b7

theorem Rds.set {w : World} {l : List UInt8} {s t t' : S8} {W W' : World} {b5 b6 b7 : Nat} (h : Rds w l s W b5 b6 b7 t) {n : Nat} (g : W'.heap[b7]? = some (.cells t'.arr 134 (0, 0))) (f : Fr (fun k => k = b7) (W.drewN n) W') : Rds w l s W' b5 b6 b7 t' where
  fr := F0.there h.fr (((Fr.refl (fun k => k = b7) W).drewN n).trans f (fun _ _ e => e)) (fun i e => by have := h.l7; omega)
  hs := f.heap h.hs (by have := h.l7; omega)
  ho := let ⟨A, h1, h2⟩ := h.ho; ⟨A, f.heap h1 (by have := h.l7; omega), h2⟩
  hk := f.heap h.hk (fun e => h.n5 e.symm)
  hw := f.heap h.hw (fun e => h.n6 e.symm)
  ht := g
  n5 := h.n5
  n6 := h.n6
  l5 := h.l5
  l6 := h.l6
  l7 := h.l7

theorem Rds.cell {w : World} {l : List UInt8} {s t t' : S8} {W : World} {b5 b6 b7 k : Nat} (h : Rds w l s W b5 b6 b7 t) {x : Value} (e : t.arr.setIfInBounds k x = t'.arr) : Rds w l s (W.setCell ⟨b7, k, none⟩ x).drew b5 b6 b7 t' :=
  h.set (n := 0) (by rw [← e]; exact heap_setCell h.ht k x) ((((Fr.refl (fun k => k = b7) W).drewN 0).setCell (p := ⟨b7, k, none⟩) (fun _ => rfl) x).drew)

set_option maxRecDepth 100000 in
set_option maxHeartbeats 3200000 in
theorem step_c (s : S8) (v : Value) (l : List UInt8) (w : World) (hr : Rd w v l) (hl : l.length = 64) (hs : s.ok) :
    Calls Try.prog 85 #[.agg s.arr, v] w fun e w' => e = .returned (.agg (stepS s l).arr) ∧ Fr F0 w w' := by
  have HR := hid hr
  have HL := hid hl
  have HS := hid hs
  clear hr hl hs
  go_enter Try.func85, Try.ntmps85
  go_wp2_with fail
  refine wp_region_inv (fun d a W => ∃ x5 x6 x7 x14 x15 x16 x17, a = { tmps := #[.agg s.arr, v, .pointer (some ⟨w.heap.size, 0, none⟩), undef, .pointer (some ⟨w.heap.size + 1, 0, none⟩), x5, x6, x7, undef, undef, undef, undef, undef, undef, x14, x15, x16, x17, undef, undef, undef, undef, undef, undef, undef, undef, undef, undef, undef, undef, undef, undef, undef, undef, undef, undef, undef, undef, undef, undef, undef, undef, undef, undef, undef, undef, undef, undef, undef, undef, undef, undef, undef, undef, undef, undef, undef, undef, undef, undef, undef, undef, undef, undef, undef, undef, undef, undef, undef, undef, undef, undef, undef, undef, undef, undef, undef, undef, undef, undef, undef, undef, undef, undef, undef, undef, undef, undef, undef, undef, undef, undef, undef, undef, undef, undef, undef, undef, undef, undef, undef, undef, undef, undef, undef, undef, undef, undef, undef, undef, undef], defers := [] } ∧ Hid (JJ w s.arr kArr (arrW l 64) v 129 134 d W x5 x6 x7 x14 x15 x16 x17)) (by kernel_rfl) (by kernel_rfl) ?h0 ?hstep ?hdone
  case h0 => 
    refine ⟨_, _, _, _, _, _, _, rfl, hid ?_⟩
    refine ⟨(((Fr.refl F0 w).alloc _).alloc _).drew, ?_, ?_, ⟨#[.int .u32 0, .int .u32 0, .int .u32 0, .int .u32 0, .int .u32 0, .int .u32 0, .int .u32 0, .int .u32 0], ?_, rfl⟩, ?_, ?_, ?_, ?_, ?_, ?_, ?_, ?_, ?_, ?_, ?_, ?_, ?_⟩
    · show w.heap.size + 2 ≤ ((w.heap.push _).push _).size
      simp
    · exact (((Fr.refl F0 (w.alloc _)).alloc _).heap (heap_alloc_last _ _) (fun e => e))
    · have := heap_alloc_last (w.alloc (Obj.cells s.arr 134))
      rw [show (w.alloc (Obj.cells s.arr 134)).heap.size = w.heap.size + 1 from Array.size_push ..] at this
      exact this _
    all_goals (intro e; cases e)
  case hstep =>
    refine invSteps_cons ?_ (invSteps_cons ?_ (invSteps_cons ?_ (invSteps_cons ?_ (invSteps_cons ?_ (invSteps_cons ?_ (invSteps_cons ?_ (invSteps_cons ?_ (invSteps_cons ?_ (invSteps_cons ?_ trivial)))))))))
    · rintro d a W h0 hn ⟨x5, x6, x7, x14, x15, x16, x17, rfl, H⟩
      go_wp2_with fail
      refine (constants_c _).mono ?_
      rintro e w1 ⟨rfl, f⟩
      go_wp2_with fail
      exact ⟨_, _, _, _, _, _, _, rfl, hid (H.out.s0 f)⟩
    · rintro d a W h0 hn ⟨x5, x6, x7, x14, x15, x16, x17, rfl, H⟩
      go_wp2_with fail
      exact ⟨_, _, _, _, _, _, _, rfl, hid H.out.s1⟩
    · rintro d a W h0 hn ⟨x5, x6, x7, x14, x15, x16, x17, rfl, H⟩
      obtain rfl := H.out.c15 (hn 1 (by decide))
      go_wp2_with fail
      refine (spread_c _ l _ (HR.out.keep0 H.out.fr) HL.out).mono ?_
      rintro e w1 ⟨rfl, f⟩
      go_wp2_with fail
      exact ⟨_, _, _, _, _, _, _, rfl, hid (H.out.s2 f)⟩
    · rintro d a W h0 hn ⟨x5, x6, x7, x14, x15, x16, x17, rfl, H⟩
      have hi := info8 s
      have HI := hid hi
      clear hi
      go_wp2_with (refine wpList_loadRow rfl 134 (.tmp 2) rfl w.heap.size rfl 134 s.arr _ _ H.out.hs Try.underlying134 rfl HI.out ?_)
      exact ⟨_, _, _, _, _, _, _, rfl, hid H.out.s3⟩
    · rintro d a W h0 hn ⟨x5, x6, x7, x14, x15, x16, x17, rfl, H⟩
      have h9 := hid h0
      clear h0
      go_wp2_with fail
      exact ⟨_, _, _, _, _, _, _, rfl, hid (H.out.s4 h9.out _ rfl)⟩
    · rintro d a W h0 hn ⟨x5, x6, x7, x14, x15, x16, x17, rfl, H⟩
      have h9 := hid h0
      clear h0
      go_wp2_with fail
      exact ⟨_, _, _, _, _, _, _, rfl, hid (H.out.s5 h9.out _ rfl)⟩
    · rintro d a W h0 hn ⟨x5, x6, x7, x14, x15, x16, x17, rfl, H⟩
      have h9 := hid h0
      clear h0
      go_wp2_with fail
      exact ⟨_, _, _, _, _, _, _, rfl, hid (H.out.s6 h9.out _ rfl)⟩
    · rintro d a W h0 hn ⟨x5, x6, x7, x14, x15, x16, x17, rfl, H⟩
      have h1 := hid (hn 4 (by decide))
      obtain rfl := H.out.c14 (hn 0 (by decide))
      obtain ⟨b, A, hb, -⟩ := H.out.c5 h1.out
      have HB := hid hb
      obtain rfl := hb.x
      clear hb
      go_wp2_with (refine wpList_storeRow rfl 129 (.tmp 5) (.tmp 14) rfl b A kArr 129 HB.out.at_ rfl rfl (rfl.trans HB.out.size.symm) info64 (by kernel_rfl) ?_)
      intro w2 hg2 hf2
      go_wp2_with fail
      exact ⟨_, _, _, _, _, _, _, rfl, hid (H.out.s7 h1.out HB.out rfl hg2 hf2)⟩
    · rintro d a W h0 hn ⟨x5, x6, x7, x14, x15, x16, x17, rfl, H⟩
      have h1 := hid (hn 5 (by decide))
      obtain rfl := H.out.c16 (hn 2 (by decide))
      obtain ⟨b, A, hb, -⟩ := H.out.c6 h1.out
      have HB := hid hb
      obtain rfl := hb.x
      clear hb
      go_wp2_with (refine wpList_storeRow rfl 129 (.tmp 6) (.tmp 16) rfl b A (arrW l 64) 129 HB.out.at_ rfl rfl ((arrW_size l 64 (by omega)).trans HB.out.size.symm) (info64w l) (arrW_one l 64) ?_)
      intro w2 hg2 hf2
      go_wp2_with fail
      exact ⟨_, _, _, _, _, _, _, rfl, hid (H.out.s8 h1.out HB.out (arrW_size l 64 (by omega)) hg2 hf2)⟩
    · rintro d a W h0 hn ⟨x5, x6, x7, x14, x15, x16, x17, rfl, H⟩
      have h1 := hid (hn 6 (by decide))
      obtain rfl := H.out.c17 (hn 3 (by decide))
      obtain ⟨b, A, hb, -⟩ := H.out.c7 h1.out
      have HB := hid hb
      obtain rfl := hb.x
      clear hb
      go_wp2_with (refine wpList_storeRow rfl 134 (.tmp 7) (.tmp 17) rfl b A s.arr 134 HB.out.at_ rfl rfl ((show s.arr.size = 8 from rfl).trans HB.out.size.symm) (info8 s) s.one ?_)
      intro w2 hg2 hf2
      go_wp2_with fail
      exact ⟨_, _, _, _, _, _, _, rfl, hid (H.out.s9 h1.out HB.out rfl hg2 hf2)⟩
  case hdone =>
    rintro d a W hd ⟨x5, x6, x7, x14, x15, x16, x17, rfl, H⟩
    obtain ⟨b5, A5, hb5, e5⟩ := H.out.c5 (hd 4 (by decide))
    obtain ⟨b6, A6, hb6, e6⟩ := H.out.c6 (hd 5 (by decide))
    obtain ⟨b7, A7, hb7, e7⟩ := H.out.c7 (hd 6 (by decide))
    obtain rfl := e5 (hd 7 (by decide))
    obtain rfl := e6 (hd 8 (by decide))
    obtain rfl := e7 (hd 9 (by decide))
    have h57 := hb5.other hb7 (H.out.n57 (hd 4 (by decide)) (hd 6 (by decide)))
    have h67 := hb6.other hb7 (H.out.n67 (hd 5 (by decide)) (hd 6 (by decide)))
    obtain rfl := hb5.x
    obtain rfl := hb6.x
    obtain rfl := hb7.x
    have G0 := hid (show Rds w l s W b5 b6 b7 s from ⟨H.out.fr, H.out.hs, H.out.ho, hb5.at_, hb6.at_, hb7.at_, h57, h67, hb5.lt, hb6.lt, hb7.lt⟩)
    clear hb5 hb6 hb7 h57 h67 e5 e6 e7 H hd
    go_wp2_with fail
    go_loopw [18] (fun i wr => ∃ k : Nat, k ≤ 64 ∧ i = .int .i64 k ∧ Hid (Rds w l s wr b5 b6 b7 (rndn s l k))) (fun i _ => 64 - (intOf i).toNat)
    case atStart => exact ⟨0, by omega, rfl, G0⟩
    case round =>
      obtain ⟨k, hk, rfl, H⟩ := hrel
      by_cases hlt : k < 64
      · have hlt' : (k : Int) < 64 := by omega
        have hT : (rndn s l k).ok := rndn_ok s l HS.out k
        have hN : rndn s l (k + 1) = rdn (kL.getD k 0) ((sched l 64).getD k 0) (rndn s l k) := rfl
        generalize rndn s l k = t at *
        obtain ⟨ta, tb, tc, td, te, tf, tg, th⟩ := t
        obtain ⟨⟨a0, a1⟩, ⟨b0, b1⟩, ⟨c0, c1⟩, ⟨d0, d1⟩, ⟨e0, e1⟩, ⟨f0, f1⟩, ⟨g0, g1⟩, ⟨h0, h1⟩⟩ := hT
        dsimp only at a0 a1 b0 b1 c0 c1 d0 d1 e0 e1 f0 f1 g0 g1 h0 h1
        have HN := hid hN
        clear hN
        have u0 : wr.cell? ⟨b7, 0, none⟩ = some (.int .u32 ta) := by rw [cell_at H.out.ht]; rfl
        have u1 : wr.cell? ⟨b7, 1, none⟩ = some (.int .u32 tb) := by rw [cell_at H.out.ht]; rfl
        have u2 : wr.cell? ⟨b7, 2, none⟩ = some (.int .u32 tc) := by rw [cell_at H.out.ht]; rfl
        have u3 : wr.cell? ⟨b7, 3, none⟩ = some (.int .u32 td) := by rw [cell_at H.out.ht]; rfl
        have u4 : wr.cell? ⟨b7, 4, none⟩ = some (.int .u32 te) := by rw [cell_at H.out.ht]; rfl
        have u5 : wr.cell? ⟨b7, 5, none⟩ = some (.int .u32 tf) := by rw [cell_at H.out.ht]; rfl
        have u6 : wr.cell? ⟨b7, 6, none⟩ = some (.int .u32 tg) := by rw [cell_at H.out.ht]; rfl
        have u7 : wr.cell? ⟨b7, 7, none⟩ = some (.int .u32 th) := by rw [cell_at H.out.ht]; rfl
        have uk : wr.cell? ⟨b5, k, none⟩ = some (.int .u32 (kL.getD k 0)) := by rw [cell_at H.out.hk]; exact kArr_get k hlt
        have uw : wr.cell? ⟨b6, k, none⟩ = some (.int .u32 ((sched l 64).getD k 0)) := by rw [cell_at H.out.hw]; exact arrW_get l 64 k hlt
        obtain ⟨k0, k1⟩ := kL_w k
        obtain ⟨w0, w1⟩ := sched_getD_w l 64 k
        generalize kL.getD k 0 = kk at *
        generalize (sched l 64).getD k 0 = ww at *
        go_wp2_with fail
        go_quiet (fail)
        go_wp2_with fail
        go_quiet ((go_at_call 90; exact still_q rfl (turn_c _ _ _ (by decide) (by decide))))
        go_wp2_with fail
        go_quiet ((go_at_call 90; exact still_q rfl (turn_c _ _ _ (by decide) (by decide))))
        go_wp2_with (refine wpList_storeRow rfl 134 (.tmp 7) (.tmp 96) rfl b7 _ _ 134 H.out.ht rfl rfl rfl info8' (S8.one ⟨_, _, _, _, _, _, _, _⟩) ?_)
        intro w2 hg2 hf2

        have HR2 := hid (H.out.set (t' := rdn kk ww ⟨ta, tb, tc, td, te, tf, tg, th⟩) hg2 hf2)
        rw [← HN.out] at HR2
        clear hg2 hf2
        go_wp2_with fail
        exact ⟨⟨k + 1, by omega, by go_num, HR2⟩, by simp [intOf]; omega⟩
      · have k64 : k = 64 := by omega
        have H := hid (k64 ▸ H.out)
        have hge : ¬ (k : Int) < 64 := by omega
        clear k64 hk hlt
        have hT : (rndn s l 64).ok := rndn_ok s l HS.out 64
        have HE := hid (show stepS s l = addN (rndn s l 64) s 8 from rfl)
        generalize rndn s l 64 = t at *
        go_wp2_with fail
        go_loopw [98] (fun i wq => ∃ k : Nat, k ≤ 8 ∧ i = .int .i64 k ∧ Hid (Rds w l s wq b5 b6 b7 (addN t s k))) (fun i _ => 8 - (intOf i).toNat)
        case atStart => exact ⟨0, by omega, rfl, H⟩
        case round =>
          obtain ⟨k, hk, rfl, H⟩ := hrel
          by_cases hlt : k < 8
          · have hlt' : (k : Int) < 8 := by omega
            have u7 : wr.cell? ⟨b7, k, none⟩ = some (.int .u32 (t.get k)) := by rw [cell_at H.out.ht]; exact addN_get t s k hlt
            have uf : wr.frozen? ⟨b7, k, none⟩ = false := frozen_at H.out.ht k
            have us : wr.cell? ⟨w.heap.size, k, none⟩ = some (.int .u32 (s.get k)) := by rw [cell_at H.out.hs]; exact s.arr_get k hlt
            obtain ⟨t0, t1⟩ := t.get_w hT k
            obtain ⟨s0, s1⟩ := s.get_w HS.out k
            have HA := hid (addN_set t s k hlt)
            generalize t.get k = tk at *
            generalize s.get k = sk at *
            go_wp2_with fail
            refine wp_region_still_tail 8 (by kernel_rfl) (by kernel_rfl) ?_
            simp only [List.take_succ_cons, List.take_zero, List.drop_succ_cons, List.drop_zero]
            change wpStill _ _ (World.drew _) _ _ _
            repeat still_step
            refine wpStill_nil ?_
            change wpList _ _ _ _ _ (World.drew _)
            go_wp2_with fail
            exact ⟨⟨k + 1, by omega, by go_num, hid (H.out.cell HA.out)⟩, by simp [intOf]; omega⟩
          · have k8 : k = 8 := by omega
            have H := hid (k8 ▸ H.out)
            have hge : ¬ (k : Int) < 8 := by omega
            clear k8 hk hlt
            obtain ⟨A4, hA4, hs4⟩ := H.out.ho
            have H4 := hid hA4
            have HS4 := hid hs4
            clear hA4 hs4
            rw [← HE.out] at H
            have HI := hid (info8 (stepS s l))
            go_wp2_with (first | (refine wpList_loadRow rfl 134 (.tmp 7) rfl b7 rfl 134 (stepS s l).arr _ _ H.out.ht Try.underlying134 rfl HI.out ?_) | (refine wpList_storeRow rfl 134 (.tmp 4) (.tmp 110) rfl (w.heap.size + 1) A4 (stepS s l).arr 134 H4.out rfl rfl ((show (stepS s l).arr.size = 8 from rfl).trans HS4.out.symm) HI.out (S8.one _) ?_))
            intro w2 hg2 hf2
            have HG2 := hid hg2
            have HF2 := hid (F0.there H.out.fr hf2 (fun i e => by omega))
            clear hg2 hf2
            go_wp2_with fail
            exact bodyPost_ret (v := .agg (stepS s l).arr) (results_cell_row Try.results85 _ _ (w.heap.size + 1) 134 (stepS s l).arr (0, 0) _ rfl HG2.out Try.underlying134 rfl HI.out) rfl ⟨rfl, HF2.out⟩

end Go.Proofs.Ytfalaopljodmnaa
