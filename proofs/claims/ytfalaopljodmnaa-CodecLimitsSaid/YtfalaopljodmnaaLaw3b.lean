/- linnetlaw3: written, made. -/
import Derived.Test.YtfalaopljodmnaaLaw3
namespace Go.Proofs.Ytfalaopljodmnaa
open Go.RowKit

/-- May an item be written? -/
def okIt (x : It) : Bool := !(x.kind == 1 && (decide (x.n < 0) || decide (2147483647 < x.n)))

/-- Its bytes. -/
def enc (x : It) : List UInt8 :=
  if x.kind = 1 then (if x.n < 0 ∨ 2147483647 < x.n then [] else leB 4 x.n.toNat) else if x.kind = 2 then leB 8 x.w else if x.kind = 3 ∨ x.kind = 4 then leB 4 x.s.size ++ x.s.data.toList else []

def encs (l : List It) : List UInt8 := l.flatMap enc

theorem size_data (s : ByteArray) : s.data.toList.length = s.size := by rw [Array.length_toList]; rfl

theorem enc_len (x : It) : (enc x).length ≤ x.s.size + 8 := by
  unfold enc
  split
  · split <;> simp [leB_length]
  · split
    · simp [leB_length]
    · split
      · rw [List.length_append, leB_length, size_data]; omega
      · simp

theorem encs_len (l : List It) : ((encs l).length : Int) ≤ wsum l := by
  induction l with
  | nil => simp [encs, wsum]
  | cons x l ih => have := enc_len x; simp only [encs, List.flatMap_cons, List.length_append, wsum] at *; omega

theorem encs_take (l : List It) (k : Nat) (x : It) (h : l[k]? = some x) : encs (l.take (k + 1)) = encs (l.take k) ++ enc x := by
  obtain ⟨hl, e⟩ := List.getElem?_eq_some_iff.1 h
  rw [List.take_succ_eq_append_getElem hl, encs, encs, List.flatMap_append, e]; simp

theorem all_take (l : List It) (k : Nat) (x : It) (h : l[k]? = some x) : (l.take (k + 1)).all okIt = ((l.take k).all okIt && okIt x) := by
  obtain ⟨hl, e⟩ := List.getElem?_eq_some_iff.1 h
  rw [List.take_succ_eq_append_getElem hl, List.all_append, e]; simp

theorem ret_tup {v : Value} {b c : Bool} (h : b = c) : Ending.returned (.tuple #[v, .bool b]) = .returned (.tuple #[v, .bool c]) := by rw [h]

/-- The Writer of 'written' behind k items. -/
def WK (w wr : World) (pb : Nat) (l : List It) (k : Nat) : Prop := ∃ v, Wr wr pb v (encs (l.take k)) (!(l.take k).all okIt) ∧ Fr F0 w wr ∧ New w v

theorem WK.step {w wr w' : World} {pb : Nat} {l : List It} {k : Nat} {v v' : Value} {b : Bool} {m : List UInt8} (f : Fr F0 w wr) (n : New w v) (hp : w.heap.size ≤ pb) (t : WTo wr w' pb v v' m b) (x : It) (hx : l[k]? = some x)
    (hm : m = encs (l.take k) ++ enc x) (hb : b = !((l.take k).all okIt && okIt x)) : WK w w' pb l (k + 1) := by
  refine ⟨v', ?_, f.trans t.fr (fun i hi e => ?_), fun i e => ?_⟩
  · rw [encs_take l k x hx, all_take l k x hx, ← hm, ← hb]; exact t.wr
  · rcases e with e | e
    · omega
    · have := n i e; omega
  · rcases t.new i e with e | e
    · exact n i e
    · exact Nat.le_trans f.size e

set_option maxRecDepth 100000 in
set_option maxHeartbeats 1600000 in
theorem written_c (v : Value) (l : List It) (w : World) (hr : Its w v l) (hw : wsum l ≤ 1000) :
    Calls Try.prog 17 #[v] w fun e w' => ∃ v', e = .returned (.tuple #[v', .bool (l.all okIt)]) ∧ Rd w' v' (if l.all okIt then encs l else []) ∧ Fr F0 w w' := by
  obtain ⟨ao, c, rfl, hlc, hc2, hat⟩ := hr.form
  have HA := hid hat
  have HWS : Hid (∀ k, ((encs (l.take k)).length : Int) ≤ 1000) := hid (fun k => by have := encs_len (l.take k); have := wsum_take_le l k; omega)
  clear hr hat
  go_enter Try.func17, Try.ntmps17
  go_wp2_with fail
  go_loopw [5] (fun i wr => ∃ k : Nat, k ≤ l.length ∧ i = .int .i64 k ∧ Hid (WK w wr w.heap.size l k)) (fun i _ => l.length - (intOf i).toNat)
  case atStart =>
    have hf := (Fr.refl F0 w).alloc (.cells #[Value.slice none 0 0, Value.bool false] 48)
    exact ⟨0, by omega, rfl, hid ⟨.slice none 0 0, ⟨heap_alloc_last _ _, Ob.nil _ _, by simp [Value.ownBlock]⟩, hf, New.nil _ _ _⟩⟩
  case round =>
    obtain ⟨k, hk, rfl, H⟩ := hrel
    by_cases hlt : k < l.length
    · obtain ⟨x, hx⟩ : ∃ x, l[k]? = some x := ⟨_, List.getElem?_eq_getElem hlt⟩
      obtain ⟨wv, hwr, hfr, hnew⟩ := H.out
      obtain ⟨b, o, rfl, hb, hi⟩ := HA.out k x hx
      have hi' := hi.keep0 hfr hb
      obtain ⟨c0, c1, c2, c3, _⟩ := hi'
      have hws := HWS.out k
      have hxs : (x.s.size : Int) ≤ 1000 := by have := wsum_take l k x hx; have := wsum_take_le l (k + 1); have := wsum_nonneg (l.take k); omega
      have HX := hid hx
      have HN : Hid (New w wv) := hid hnew
      have HF := hid hfr
      have HR := hid hwr
      clear hi hx hnew hfr hwr H
      by_cases k1 : x.kind = 1
      · have k1' : (x.kind == 1) = true := by simp [k1]
        have K1 := hid k1
        clear k1
        by_cases hn : x.n < 0 ∨ 2147483647 < x.n
        · go_wp2_with fail
          refine (wnum_bad w.heap.size wv _ _ x.n _ HR.out hn).mono ?_
          rintro e w1 ⟨rfl, v1, t1⟩
          have HT : Hid (WK w w1 w.heap.size l (k + 1)) := hid (WK.step HF.out HN.out (Nat.le_refl _) t1 x HX.out (by simp [enc, K1.out, hn]) (by simp [okIt, K1.out, hn]))
          clear t1 hn
          go_wp2_with fail
          exact ⟨⟨k + 1, by omega, by go_num, HT⟩, by simp [intOf]; omega⟩
        · go_wp2_with fail
          refine (wnum_ok w.heap.size wv _ _ x.n _ HR.out (by omega) (by omega) (by omega)).mono ?_
          rintro e w1 ⟨rfl, v1, t1⟩
          have HT : Hid (WK w w1 w.heap.size l (k + 1)) := hid (WK.step HF.out HN.out (Nat.le_refl _) t1 x HX.out (by simp [enc, K1.out, hn]) (by simp [okIt, K1.out, hn]))
          clear t1 hn
          go_wp2_with fail
          exact ⟨⟨k + 1, by omega, by go_num, HT⟩, by simp [intOf]; omega⟩
      · have k1' : (x.kind == 1) = false := by simp [k1]
        by_cases k2 : x.kind = 2
        · have k2' : (x.kind == 2) = true := by simp [k2]
          have K2 := hid k2
          clear k1 k2
          go_wp2_with fail
          refine (wword_c w.heap.size wv _ _ x.w _ HR.out (by omega) (by omega)).mono ?_
          rintro e w1 ⟨rfl, v1, t1⟩
          have HT : Hid (WK w w1 w.heap.size l (k + 1)) := hid (WK.step HF.out HN.out (Nat.le_refl _) t1 x HX.out (by simp [enc, K2.out]) (by simp [okIt, K2.out]))
          clear t1
          go_wp2_with fail
          exact ⟨⟨k + 1, by omega, by go_num, HT⟩, by simp [intOf]; omega⟩
        · have k2' : (x.kind == 2) = false := by simp [k2]
          by_cases k3 : x.kind = 3
          · have k3' : (x.kind == 3) = true := by simp [k3]
            have K3 := hid k3
            clear k1 k2 k3
            go_wp2_with (refine wpList_bytS rfl (.tmp 44) 9 25 rfl 5 x.s str_ty Try.underlying25 Try.underlying5 (by omega) rfl ?_)
            intro cc w1 hb1 hf1 hs1
            have HB := hid hb1
            have HF1 := hid hf1
            clear hb1 hf1
            go_wp2_with fail
            refine (wbytes_c w.heap.size wv _ _ x.s.data.toList _ _ (HR.out.keep0 HF1.out) HB.out.rd ?d1 ?d2 ?d3 (by omega)).mono ?_
            case d1 => intro e; have e := rblk_own e; have := HR.out.lt; simp [Value.ownBlock] at e; omega
            case d2 => intro i hi e; have e := rblk_own e; have := HR.out.own.lt i hi; simp [Value.ownBlock] at e; omega
            case d3 => rw [size_data]; omega
            rintro e w2 ⟨rfl, v1, t1⟩
            have HT : Hid (WK w w2 w.heap.size l (k + 1)) := hid (WK.step (HF.out.trans HF1.out (fun _ _ e => e)) HN.out (Nat.le_refl _) t1 x HX.out (by simp [enc, K3.out]) (by simp [okIt, K3.out]))
            clear t1
            go_wp2_with fail
            exact ⟨⟨k + 1, by omega, by go_num, HT⟩, by simp [intOf]; omega⟩
          · have k3' : (x.kind == 3) = false := by simp [k3]
            by_cases k4 : x.kind = 4
            · have k4' : (x.kind == 4) = true := by simp [k4]
              have K4 := hid k4
              clear k1 k2 k3 k4
              go_wp2_with fail
              refine (wtext_c w.heap.size wv _ x.s _ _ HR.out (by omega) (by omega)).mono ?_
              rintro e w1 ⟨rfl, v1, t1⟩
              have HT : Hid (WK w w1 w.heap.size l (k + 1)) := hid (WK.step HF.out HN.out (Nat.le_refl _) t1 x HX.out (by simp [enc, K4.out]) (by simp [okIt, K4.out]))
              clear t1
              go_wp2_with fail
              exact ⟨⟨k + 1, by omega, by go_num, HT⟩, by simp [intOf]; omega⟩
            · have k4' : (x.kind == 4) = false := by simp [k4]
              have HT : Hid (WK w wr w.heap.size l (k + 1)) := hid (WK.step HF.out HN.out (Nat.le_refl _) HR.out.refl x HX.out (by simp [enc, k1, k2, k3, k4]) (by simp [okIt, k1]))
              clear k1 k2 k3 k4
              go_wp2_with fail
              exact ⟨⟨k + 1, by omega, by go_num, HT⟩, by simp [intOf]; omega⟩
    · obtain rfl : k = l.length := by omega
      obtain ⟨wv, hwr, hfr, hnew⟩ := H.out
      rw [List.take_length] at hwr
      have hws := HWS.out l.length
      rw [List.take_length] at hws
      have HR := hid hwr
      have HF := hid hfr
      clear hwr hfr hnew H
      by_cases hall : l.all okIt = true
      · rw [hall] at HR
        go_wp2_with fail
        refine (wdone_ok w.heap.size wv _ _ HR.out (by omega)).mono ?_
        rintro e w1 ⟨v1, rfl, h1, h2, h3⟩
        have H1 := hid h1
        have H2 := hid h2
        clear h1 h2 h3
        go_wp2_with fail
        go_ret2
        exact ⟨_, rfl, H1.out.rd, HF.out.trans H2.out (fun _ _ e => e)⟩
      · have hall' : l.all okIt = false := by simpa using hall
        rw [hall'] at HR
        go_wp2_with fail
        refine (wdone_bad w.heap.size wv _ _ HR.out).mono ?_
        rintro e w1 ⟨rfl, rfl⟩
        go_wp2_with fail
        go_ret2
        exact ⟨_, rfl, Rd.nil _, HF.out⟩

/-- What 'made' and 'written' answer. -/
def Made (w : World) (l : List It) (e : Ending) (w' : World) : Prop := ∃ v', e = .returned (.tuple #[v', .bool (l.all okIt)]) ∧ Rd w' v' (if l.all okIt then encs l else []) ∧ Fr F0 w w'

theorem Made.mk' {w w' : World} {l : List It} {v : Value} {b : Bool} {m : List UInt8} (hb : l.all okIt = b) (hr : Rd w' v m) (hm : m = if l.all okIt then encs l else []) (hf : Fr F0 w w') : Made w l (.returned (.tuple #[v, .bool b])) w' :=
  ⟨v, by rw [hb], hm ▸ hr, hf⟩

/-- 'made' behind k items. -/
def MK (w wr : World) (v : Value) (l : List It) (k : Nat) : Prop := Ob wr 5 v (encs (l.take k)) ∧ Fr F0 w wr ∧ New w v ∧ (l.take k).all okIt = true

theorem MK.step {w wr w' : World} {l : List It} {k : Nat} {v v' : Value} (h : MK w wr v l k) (x : It) (hx : l[k]? = some x) (hok : okIt x = true) {wm : World} (fm : Fr F0 wr wm) (g : wm.grownBy w' v.ownBlock)
    (o : Ob w' 5 v' (encs (l.take k) ++ enc x)) (n : ∀ i, v'.ownBlock = some i → v.ownBlock = some i ∨ wm.heap.size ≤ i) : MK w w' v' l (k + 1) := by
  obtain ⟨h1, h2, h3, h4⟩ := h
  have f := h2.trans fm (fun _ _ e => e)
  refine ⟨by rw [encs_take l k x hx]; exact o, f.grown g (fun i e hi => by have := h3 i e; omega), fun i e => ?_, by rw [all_take l k x hx, h4, hok]; rfl⟩
  rcases n i e with e | e
  · exact h3 i e
  · exact Nat.le_trans f.size e

set_option maxRecDepth 100000 in
set_option maxHeartbeats 1600000 in
theorem made_c (v : Value) (l : List It) (w : World) (hr : Its w v l) (hw : wsum l ≤ 1000) :
    Calls Try.prog 18 #[v] w (Made w l) := by
  obtain ⟨ao, c, rfl, hlc, hc2, hat⟩ := hr.form
  have HA := hid hat
  have HWS : Hid (∀ k, ((encs (l.take k)).length : Int) ≤ 1000) := hid (fun k => by have := encs_len (l.take k); have := wsum_take_le l k; omega)
  clear hr hat
  go_enter Try.func18, Try.ntmps18
  go_wp2_with fail
  go_loopw [4, 5] (fun y i wr => ∃ (k : Nat) (v : Value), k ≤ l.length ∧ i = .int .i64 k ∧ v = y ∧ Hid (MK w wr v l k)) (fun _ i _ => l.length - (intOf i).toNat)
  case atStart => exact ⟨0, _, by omega, rfl, rfl, hid ⟨Ob.nil _ _, Fr.refl _ _, New.nil _ _ _, rfl⟩⟩
  case round =>
    obtain ⟨k, v, hk, rfl, rfl, H⟩ := hrel
    by_cases hlt : k < l.length
    · obtain ⟨x, hx⟩ : ∃ x, l[k]? = some x := ⟨_, List.getElem?_eq_getElem hlt⟩
      obtain ⟨b, o, rfl, hb, hi⟩ := HA.out k x hx
      have hi' := hi.keep0 H.out.2.1 hb
      obtain ⟨c0, c1, c2, c3, _⟩ := hi'
      have hws := HWS.out k
      have hxs : (x.s.size : Int) ≤ 1000 := by have := wsum_take l k x hx; have := wsum_take_le l (k + 1); have := wsum_nonneg (l.take k); omega
      have HX := hid hx
      clear hi hx
      by_cases k1 : x.kind = 1
      · have k1' : (x.kind == 1) = true := by simp [k1]
        have K1 := hid k1
        clear k1
        by_cases hn : x.n < 0 ∨ 2147483647 < x.n
        · have HB : Hid (l.all okIt = false) := hid (by
            rw [List.all_eq_false]
            refine ⟨x, List.mem_of_getElem? HX.out, by rcases hn with hn | hn <;> simp [okIt, K1.out, hn]⟩)
          have hn' := hn
          rcases hn' with hn' | hn'
          · have HN := hid hn
            clear hn
            go_wp2_with fail
            go_ret2
            exact Made.mk' HB.out (Rd.nil _) (by rw [if_neg (by simp [HB.out])]) H.out.2.1
          · have hn0 : ¬ x.n < 0 := by omega
            have HN := hid hn
            clear hn
            go_wp2_with fail
            go_ret2
            exact Made.mk' HB.out (Rd.nil _) (by rw [if_neg (by simp [HB.out])]) H.out.2.1
        · have hn0 : 0 ≤ x.n := by omega
          have hn1 : x.n ≤ 2147483647 := by omega
          have HN := hid hn
          clear hn
          go_wp2_with fail
          refine (refnum_c x.n _ hn0).mono ?_
          rintro e w1 ⟨v1, rfl, h1, h2, h3⟩
          have H1 := hid h1
          have H2 := hid h2
          clear h1 h2 h3
          go_wp2_with (at_builtin; refine wpList_appB rfl (.tmp 33) (.tmp 39) 25 rfl 5 Try.underlying25 infoB v v1 (encs (l.take k)) (leB 4 x.n.toNat) rfl rfl ?c1 ?c2 ?c3 ?_)
          case c1 => exact H.out.1.keep0 H2.out
          case c2 => exact H1.out.rd
          case c3 => rw [leB_length]; omega
          intro v2 w2 ho hg hnw _
          have HT : Hid (MK w w2 v2 l (k + 1)) := hid (H.out.step x HX.out (by simp [okIt]; omega) H2.out hg (by simpa [enc, K1.out, HN.out] using ho) hnw)
          clear ho hg hnw
          go_wp2_with fail
          exact ⟨⟨k + 1, _, by omega, by go_num, rfl, HT⟩, by simp [intOf]; omega⟩
      · have k1' : (x.kind == 1) = false := by simp [k1]
        by_cases k2 : x.kind = 2
        · have k2' : (x.kind == 2) = true := by simp [k2]
          have K2 := hid k2
          clear k1 k2
          go_wp2_with fail
          refine (refword_c x.w _ (by omega)).mono ?_
          rintro e w1 ⟨v1, rfl, h1, h2, h3⟩
          have H1 := hid h1
          have H2 := hid h2
          clear h1 h2 h3
          go_wp2_with (at_builtin; refine wpList_appB rfl (.tmp 43) (.tmp 49) 25 rfl 5 Try.underlying25 infoB v v1 (encs (l.take k)) (leB 8 x.w) rfl rfl ?c1 ?c2 ?c3 ?_)
          case c1 => exact H.out.1.keep0 H2.out
          case c2 => exact H1.out.rd
          case c3 => rw [leB_length]; omega
          intro v2 w2 ho hg hnw _
          have HT : Hid (MK w w2 v2 l (k + 1)) := hid (H.out.step x HX.out (by simp [okIt, K2.out]) H2.out hg (by simpa [enc, K2.out] using ho) hnw)
          clear ho hg hnw
          go_wp2_with fail
          exact ⟨⟨k + 1, _, by omega, by go_num, rfl, HT⟩, by simp [intOf]; omega⟩
        · have k2' : (x.kind == 2) = false := by simp [k2]
          by_cases k34 : x.kind = 3 ∨ x.kind = 4
          · have HE : Hid (enc x = leB 4 x.s.size ++ x.s.data.toList) := hid (by simp [enc, k1, k2, k34])
            have HO : Hid (okIt x = true) := hid (by simp [okIt, k1])
            by_cases k3 : x.kind = 3
            · have k3' : (x.kind == 3) = true := by simp [k3]
              clear k1 k2 k3 k34
              go_wp2_with (refine wpList_bytS rfl (.tmp 59) 9 25 rfl 5 x.s str_ty Try.underlying25 Try.underlying5 (by omega) rfl ?_)
              intro cc w1 hb1 hf1 hs1
              have HB := hid hb1
              have HF1 := hid hf1
              clear hb1 hf1
              go_wp2_with fail
              refine (refbytes_c _ x.s.data.toList _ HB.out.rd (by rw [size_data]; omega)).mono ?_
              rintro e w2 ⟨v1, rfl, h1, h2, h3⟩
              have H1 := hid h1
              have H2 := hid (HF1.out.trans h2 (fun _ _ e => e))
              clear h1 h2 h3
              go_wp2_with (at_builtin; refine wpList_appB rfl (.tmp 54) (.tmp 61) 25 rfl 5 Try.underlying25 infoB v v1 (encs (l.take k)) (leB 4 x.s.data.toList.length ++ x.s.data.toList) rfl rfl ?c1 ?c2 ?c3 ?_)
              case c1 => exact H.out.1.keep0 H2.out
              case c2 => exact H1.out.rd
              case c3 => rw [List.length_append, leB_length, size_data]; omega
              intro v2 w2 ho hg hnw _
              have HT : Hid (MK w w2 v2 l (k + 1)) := hid (H.out.step x HX.out HO.out H2.out hg (by rw [HE.out]; exact ho) hnw)
              clear ho hg hnw
              go_wp2_with fail
              exact ⟨⟨k + 1, _, by omega, by go_num, rfl, HT⟩, by simp [intOf]; omega⟩
            · have k3' : (x.kind == 3) = false := by simp [k3]
              have k4' : (x.kind == 4) = true := by simp; omega
              clear k1 k2 k3 k34
              go_wp2_with (refine wpList_bytS rfl (.tmp 59) 9 25 rfl 5 x.s str_ty Try.underlying25 Try.underlying5 (by omega) rfl ?_)
              intro cc w1 hb1 hf1 hs1
              have HB := hid hb1
              have HF1 := hid hf1
              clear hb1 hf1
              go_wp2_with fail
              refine (refbytes_c _ x.s.data.toList _ HB.out.rd (by rw [size_data]; omega)).mono ?_
              rintro e w2 ⟨v1, rfl, h1, h2, h3⟩
              have H1 := hid h1
              have H2 := hid (HF1.out.trans h2 (fun _ _ e => e))
              clear h1 h2 h3
              go_wp2_with (at_builtin; refine wpList_appB rfl (.tmp 54) (.tmp 61) 25 rfl 5 Try.underlying25 infoB v v1 (encs (l.take k)) (leB 4 x.s.data.toList.length ++ x.s.data.toList) rfl rfl ?c1 ?c2 ?c3 ?_)
              case c1 => exact H.out.1.keep0 H2.out
              case c2 => exact H1.out.rd
              case c3 => rw [List.length_append, leB_length, size_data]; omega
              intro v2 w2 ho hg hnw _
              have HT : Hid (MK w w2 v2 l (k + 1)) := hid (H.out.step x HX.out HO.out H2.out hg (by rw [HE.out]; exact ho) hnw)
              clear ho hg hnw
              go_wp2_with fail
              exact ⟨⟨k + 1, _, by omega, by go_num, rfl, HT⟩, by simp [intOf]; omega⟩
          · have k3' : (x.kind == 3) = false := by simp; omega
            have k4' : (x.kind == 4) = false := by simp; omega
            have HT : Hid (MK w wr v l (k + 1)) := by
              obtain ⟨h1, h2, h3, h4⟩ := H.out
              have he : enc x = [] := by simp [enc, k1, k2, k34]
              have ho : okIt x = true := by simp [okIt, k1]
              exact hid ⟨by rw [encs_take l k x HX.out, he, List.append_nil]; exact h1, h2, h3, by rw [all_take l k x HX.out, h4, ho]; rfl⟩
            clear k1 k2 k34
            go_wp2_with fail
            exact ⟨⟨k + 1, _, by omega, by go_num, rfl, HT⟩, by simp [intOf]; omega⟩
    · obtain rfl : k = l.length := by omega
      go_wp2_with fail
      go_ret2
      obtain ⟨h1, h2, h3, h4⟩ := H.out
      rw [List.take_length] at h1 h4
      exact Made.mk' h4 h1.rd (by rw [if_pos h4]) h2

end Go.Proofs.Ytfalaopljodmnaa
