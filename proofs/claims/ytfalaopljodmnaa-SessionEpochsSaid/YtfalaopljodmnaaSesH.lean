/- session: Out. -/
import Derived.Test.YtfalaopljodmnaaSesG
import Derived.WalkMore
import Derived.Deep.LoopGhost
import Derived.Outline
import Derived.IntWalk
namespace Go.Proofs.Ytfalaopljodmnaa
open Go.RowKit Go.Maps

/-- On Out's way: k messages are marked, j are out. -/
def OutJ (w W : World) (sb : Nat) (S : St) (rv : Value) (vs : List Value) (mb N : Nat) (now : Int) (k j : Nat) (v : Value) : Prop :=
  Se W sb { S with l := outK S now k } rv vs mb N ∧ (∃ us, Bl W v us (frs S now S.first (S.l.take j))) ∧ Fr (SeM sb rv mb) w W ∧ New w v ∧ (∀ q, SeM sb rv mb q → q < w.heap.size)

theorem OutJ.start {w : World} {sb : Nat} {S : St} {rv : Value} {vs : List Value} {mb N : Nat} {now : Int} (h : Se w sb S rv vs mb N) : OutJ w w.drew sb S rv vs mb N now 0 0 (.slice none 0 0) :=
  ⟨by simpa [outK] using h.keep0 (Fr.refl F0 w).drew, ⟨[], by simpa [frs] using Bl.nil _⟩, (Fr.refl _ w).drew, New.nil _ _ _, h.lt⟩

theorem OutJ.keep1 {w W W' : World} {sb : Nat} {S : St} {rv : Value} {vs : List Value} {mb N : Nat} {now : Int} {k : Nat} {v : Value} {m : Msg} (h : OutJ w W sb S rv vs mb N now k k v) (hm : S.l[k]? = some m) (hd : due S now m = false) (f : Fr F0 W W') :
    OutJ w W' sb S rv vs mb N now (k + 1) (k + 1) v := by
  obtain ⟨h1, ⟨us, h2⟩, h3, h4⟩ := h
  exact ⟨by rw [outK_keep hm hd]; exact h1.keep0 f, ⟨us, by rw [frs_keep hm hd]; exact h2.keep0 f⟩, Fr.trans h3 f (fun _ _ e => e.elim), h4⟩

theorem OutJ.mark {w W : World} {sb : Nat} {S : St} {g o n c : Nat} {vs : List Value} {mb N : Nat} {now : Int} {k nq : Nat} {v : Value} {m : Msg} (h : OutJ w W sb S (.slice (some ⟨g, o, none⟩) n c) vs mb N now k k v) (hn : S.l.length = n) (hm : S.l[k]? = some m) (hd : due S now m = true) :
    OutJ w (((W.drewN nq).setCell ⟨g, o + k * 3 + 1, none⟩ (.bool true)).setCell ⟨g, o + k * 3 + 2, none⟩ (.int .i64 now)) sb S (.slice (some ⟨g, o, none⟩) n c) vs mb N now (k + 1) k v := by
  obtain ⟨h1, ⟨us, h2⟩, h3, h4, h5⟩ := h
  have f0 : Fr F0 W (W.drewN nq) := (Fr.refl _ _).drewN _
  have h1' := h1.keep0 f0
  have h2' := h2.keep0 f0
  have hg : SeM sb (.slice (some ⟨g, o, none⟩) n c) mb g := .inr (.inl rfl)
  have hl : (outK S now k).length = n := by rw [outK_len, hn]
  have f : Fr (fun q => q = g) (W.drewN nq) (((W.drewN nq).setCell ⟨g, o + k * 3 + 1, none⟩ (.bool true)).setCell ⟨g, o + k * 3 + 2, none⟩ (.int .i64 now)) := Se.row_fr
  refine ⟨?_, ⟨us, h2'.keep f (fun q hq e => ?_) (fun q cs fz hq hc => h1'.nb q cs fz (by rw [hq]; exact hg) hc)⟩, Fr.trans h3 (Fr.trans (f0.mono fun _ _ e => e.elim) f (fun _ _ e => e)) (fun q _ e => by rw [e]; exact hg), h4, h5⟩
  · have := Se.mark (S := { S with l := outK S now k }) (c := c) (by dsimp only; rw [hl]; exact h1') k m (outK_get now hm) now
    rw [outK_put hm hd]
    dsimp only at this
    rw [hl] at this
    exact this
  · have := h4 q hq; have := h5 g hg; omega

theorem OutJ.put {w W W3 W4 : World} {sb : Nat} {S : St} {rv : Value} {vs us : List Value} {mb N : Nat} {now : Int} {k : Nat} {v v' u : Value} {m : Msg} (h : OutJ w W sb S rv vs mb N now (k + 1) k v) (hm : S.l[k]? = some m) (hd : due S now m = true)
    (f : Fr F0 W W3) (hb : Bl W4 v' (us ++ [u]) (frs S now S.first (S.l.take k) ++ [frameB S (S.first + k) m.b])) (hv : Bl W3 v us (frs S now S.first (S.l.take k))) (g : W3.grownBy W4 v.ownBlock) (e : ∀ q, v'.ownBlock = some q → v.ownBlock = some q ∨ W3.heap.size ≤ q) :
    OutJ w W4 sb S rv vs mb N now (k + 1) (k + 1) v' := by
  obtain ⟨h1, _, h3, h4, h5⟩ := h
  have f2 := Fr.of_grown g
  have h1' := h1.keep0 f
  refine ⟨h1'.keep f2 (fun q hq e => by have := h4 q e; have := h5 q hq; omega) hv.nb, ⟨us ++ [u], by rw [frs_put hm hd]; exact hb⟩, Fr.trans h3 (Fr.trans (S := fun q => w.heap.size ≤ q) (f.mono fun _ _ e => e.elim) f2 (fun q _ e => h4 q e)) (fun q hq e => by omega), fun q hq => ?_, h5⟩
  rcases e q hq with e | e
  · exact h4 q e
  · have := h3.size; have := f.size; omega

theorem Se.cellb {W : World} {sb : Nat} {S : St} {g o n c : Nat} {vs : List Value} {mb N : Nat} (h : Se W sb S (.slice (some ⟨g, o, none⟩) n c) vs mb N) (k : Nat) (m : Msg) (v : Value) (hm : S.l[k]? = some m) (hv : vs[k]? = some v) :
    W.cell? ⟨g, o + k * 3, none⟩ = some v ∧ Rt W v m.b ∧ m.b.length ≤ 40000 := by
  obtain ⟨g', o', c', v', e1, _, _, _, e2, h1, h2, h3, _⟩ := h.at k m hm
  cases e1
  rw [hv] at e2
  cases e2
  exact ⟨h3, h1, h2⟩

theorem outK_get1 {S : St} {now : Int} {k : Nat} {m : Msg} (h : S.l[k]? = some m) (hd : due S now m = true) : (outK S now (k + 1))[k]? = some { m with sent := true, at_ := now } := by
  rw [outK_put h hd, List.getElem?_set_self (by rw [outK_len]; exact (List.getElem?_eq_some_iff.1 h).1)]

theorem Bl.formS {W : World} {v : Value} {vs : List Value} {ls : List (List UInt8)} (h : Bl W v vs ls) : ∃ a n c, v = .slice a n c := by
  obtain ⟨a, c, e⟩ := h.form
  exact ⟨a, _, c, e⟩

theorem frs_len (S : St) (now : Int) : ∀ (l : List Msg) (q : Int), (frs S now q l).length ≤ l.length
  | [], _ => by simp [frs]
  | m :: r, q => by
    have := frs_len S now r (q + 1)
    unfold frs
    split <;> simp <;> omega

theorem NB.sb {W : World} {sb : Nat} {S : St} {rv : Value} {vs : List Value} {mb N : Nat} (h : Se W sb S rv vs mb N) : NB W (fun q => q = sb) := fun q cs fz hq hc => h.nb q cs fz (.inl hq) hc

/-- Other numbers in a session. -/
theorem Se.reblk {W W' : World} {sb : Nat} {S S' : St} {rv : Value} {vs : List Value} {mb N : Nat} (h : Se W sb S rv vs mb N)
    (hb : W'.heap[sb]? = some (.cells #[.int .i64 S'.epoch, .int .i64 S'.wait, .int .i64 S'.first, rv, .int .i64 S'.peer, .int .i64 S'.have_, .map (some mb), .bool S'.tell] 116 (0, 0)))
    (f : Fr (fun q => q = sb) W W') (hl : S'.l = S.l) (he : S'.early = S.early) : Se W' sb S' rv vs mb N where
  blk := hb
  len := by rw [hl]; exact h.len
  row := by rw [hl]; exact h.row.keep f (fun q hq e => h.ap (e ▸ hq))
  bs := fun i v m hi => by rw [hl] at hi; exact ⟨(h.bs i v m hi).1.keep f (NB.sb h), (h.bs i v m hi).2⟩
  em := by rw [he]; exact h.em.keep f h.sep.1 (NB.sb h)
  ap := h.ap

theorem Se.setTell {W : World} {sb : Nat} {S : St} {rv : Value} {vs : List Value} {mb N : Nat} (h : Se W sb S rv vs mb N) (b : Bool) : Se (W.setCell ⟨sb, 7, none⟩ (.bool b)) sb { S with tell := b } rv vs mb N :=
  h.reblk (heap_setCell h.blk 7 (.bool b)) ((Fr.refl (fun q => q = sb) W).setCell (p := ⟨sb, 7, none⟩) (fun _ => rfl) _) rfl rfl

theorem out_l {S : St} {now : Int} {q : Nat} (hq : min S.l.length 8 = q) : outK S now q = outL S now ∧ S.l.take q = S.l.take 8 := by
  rcases Nat.lt_or_ge S.l.length 8 with h | h
  · have e : q = S.l.length := by omega
    subst e
    unfold outK outL
    rw [List.take_of_length_le (by omega), List.take_of_length_le (by omega), List.drop_eq_nil_of_le (by omega), List.drop_eq_nil_of_le (by omega)]
    exact ⟨rfl, rfl⟩
  · have e : q = 8 := by omega
    subst e
    exact ⟨rfl, rfl⟩

/-- The end of Out. -/
theorem OutJ.fin {w W : World} {sb : Nat} {S : St} {rv : Value} {vs : List Value} {mb N : Nat} {now : Int} {v : Value} {us : List Value} {ls : List (List UInt8)} (h1 : Se W sb { S with l := outL S now } rv vs mb N) (h2 : Bl W v us ls) (h3 : Fr (SeM sb rv mb) w W) (h4 : New w v)
    (h5 : ∀ q, SeM sb rv mb q → q < w.heap.size) (hls : ls = (outSt S now).2) :
    Bl (W.setCell ⟨sb, 7, none⟩ (.bool false)) v us (outSt S now).2 ∧ Se (W.setCell ⟨sb, 7, none⟩ (.bool false)) sb (outSt S now).1 rv vs mb N ∧ Fr (SeM sb rv mb) w (W.setCell ⟨sb, 7, none⟩ (.bool false)) ∧ New w v := by
  have f := (Fr.refl (fun q => q = sb) W).setCell (p := ⟨sb, 7, none⟩) (fun _ => rfl) (.bool false)
  exact ⟨hls ▸ h2.keep f (fun q hq e => by have := h4 q hq; have := h5 sb (.inl rfl); omega) (NB.sb h1), h1.setTell false, Fr.trans h3 f (fun q _ e => .inl e), h4⟩

theorem OutJ.tail {w W W3 W4 : World} {sb : Nat} {S' : St} {rv : Value} {vs us : List Value} {mb N : Nat} {v v' : Value} {ls : List (List UInt8)} (h1 : Se W sb S' rv vs mb N) (hv : Bl W3 v us ls) (h3 : Fr (SeM sb rv mb) w W) (h4 : New w v)
    (h5 : ∀ q, SeM sb rv mb q → q < w.heap.size) (f : Fr F0 W W3) (g : W3.grownBy W4 v.ownBlock) (e : ∀ q, v'.ownBlock = some q → v.ownBlock = some q ∨ W3.heap.size ≤ q) :
    Se W4 sb S' rv vs mb N ∧ Fr (SeM sb rv mb) w W4 ∧ New w v' := by
  have f2 := Fr.of_grown g
  refine ⟨(h1.keep0 f).keep f2 (fun q hq e => by have := h4 q e; have := h5 q hq; omega) hv.nb, Fr.trans h3 (Fr.trans (S := fun q => w.heap.size ≤ q) (f.mono fun _ _ e => e.elim) f2 (fun q _ e => h4 q e)) (fun q hq e => by omega), fun q hq => ?_⟩
  rcases e q hq with e | e
  · exact h4 q e
  · have := h3.size; have := f.size; omega

/-- What frame reads. -/
theorem Se.sh {W : World} {sb : Nat} {S : St} {rv : Value} {vs : List Value} {mb N : Nat} (h : Se W sb S rv vs mb N) : SH W sb S.epoch S.peer S.have_ := by
  refine ⟨?_, ?_, ?_⟩ <;> rw [cell_at h.blk] <;> rfl

set_option maxRecDepth 100000 in
set_option maxHeartbeats 3200000 in
theorem out_c (sb : Nat) (S : St) (rv : Value) (vs : List Value) (mb N : Nat) (now : Int) (w : World) (h : Se w sb S rv vs mb N) (hok : SOk S) (hnow : -1000000000000 ≤ now ∧ now ≤ 1000000000000) :
    Calls Try.prog 53 #[.pointer (some ⟨sb, 0, none⟩), .int .i64 now] w fun e w' => ∃ r us, e = .returned r ∧ Bl w' r us (outSt S now).2 ∧ Se w' sb (outSt S now).1 rv vs mb N ∧ Fr (SeM sb rv mb) w w' ∧ New w r := by
  obtain ⟨ao, c, rfl⟩ := h.form
  have H := hid h
  have HOK := hid hok
  have HNOW := hid hnow
  obtain ⟨n, HN⟩ : ∃ n, Hid (S.l.length = n) := ⟨_, hid rfl⟩
  have hn : n ≤ 200 := by have := HN.out; have := hok.len; omega
  rw [HN.out] at H ⊢
  have HROW := hid H.out.row.rg
  rw [HN.out] at HROW
  have hnc : n ≤ c := by obtain ⟨_, ao', c', e, h1, _⟩ := HROW.out; cases e; exact h1
  obtain ⟨q, HQ⟩ : ∃ q, Hid (min n 8 = q) := ⟨_, hid rfl⟩
  have hm8 : (if 8 < (n : Int) then 8 else (n : Int)) = (q : Int) := by have := HQ.out; split <;> omega
  have hq0 : 0 ≤ (q : Int) := by omega
  have hqc : (q : Int) ≤ (c : Int) := by have := HQ.out; omega
  clear h hok hnow
  go_enter Try.func53, Try.ntmps53
  go_wp2_with fail
  go_step3
  go_wp2_with fail
  go_step3
  go_wp2_with fail
  refine pz_start [] (fun w' => w'.heap[sb]? = w.heap[sb]?) (by kernel_rfl) ?_
  have hS0 : w.drew.heap[sb]? = w.heap[sb]? := rfl
  have q3 : ∀ w' : World, w'.heap[sb]? = w.heap[sb]? → w'.cell? ⟨sb, 3, none⟩ = some (.slice ao n c) := fun w' f => by rw [World.cell?_of_block (w := w) f]; exact H.out.c3
  refine pz_take 0 (v := ?_) [] rfl (by kernel_rfl) (by kernel_rfl) (by kernel_rfl) (by kernel_rfl) (fun _ _ _ h => h) (by rfl) hS0 (fun w' hS' => ?_) ?_
  rotate_left
  · (try dsimp only at hS'); go_simp
    try with_reducible rfl
  simp only [Act.put, List.setIfInBounds_toArray, List.set_cons_zero, List.set_cons_succ]
  refine pz_take 4 (v := ?_) [] rfl (by kernel_rfl) (by kernel_rfl) (by kernel_rfl) (by kernel_rfl) (fun _ _ _ h => h) (by rfl) hS0 (fun w' hS' => ?_) ?_
  rotate_left
  · (try dsimp only at hS'); go_simp
    try with_reducible rfl
  simp only [Act.put, List.setIfInBounds_toArray, List.set_cons_zero, List.set_cons_succ]
  refine pz_take 12 (v := ?_) [] rfl (by kernel_rfl) (by kernel_rfl) (by kernel_rfl) (by kernel_rfl) (fun _ _ _ h => h) (by rfl) hS0 (fun w' hS' => ?_) ?_
  rotate_left
  · (try dsimp only at hS'); go_simp
    try with_reducible rfl
  simp only [Act.put, List.setIfInBounds_toArray, List.set_cons_zero, List.set_cons_succ]
  refine pz_take 1 (v := ?_) [] rfl (by kernel_rfl) (by kernel_rfl) (by kernel_rfl) (by kernel_rfl) (fun _ _ _ h => h) (by rfl) hS0 (fun w' hS' => ?_) ?_
  rotate_left
  · (try dsimp only at hS'); go_simp
    try with_reducible rfl
  simp only [Act.put, List.setIfInBounds_toArray, List.set_cons_zero, List.set_cons_succ]
  refine pz_take 5 (v := ?_) [] rfl (by kernel_rfl) (by kernel_rfl) (by kernel_rfl) (by kernel_rfl) (fun _ _ _ h => h) (by rfl) hS0 (fun w' hS' => ?_) ?_
  rotate_left
  · (try dsimp only at hS'); go_simp
    try with_reducible rfl
  simp only [Act.put, List.setIfInBounds_toArray, List.set_cons_zero, List.set_cons_succ]
  refine pz_take 2 (v := ?_) [] rfl (by kernel_rfl) (by kernel_rfl) (by kernel_rfl) (by kernel_rfl) (fun _ _ _ h => h) (by rfl) hS0 (fun w' hS' => ?_) ?_
  rotate_left
  · (try dsimp only at hS'); go_simp
    try with_reducible rfl
  simp only [Act.put, List.setIfInBounds_toArray, List.set_cons_zero, List.set_cons_succ]
  refine pz_take 6 (v := ?_) [] rfl (by kernel_rfl) (by kernel_rfl) (by kernel_rfl) (by kernel_rfl) (fun _ _ _ h => h) (by rfl) hS0 (fun w' hS' => ?_) ?_
  rotate_left
  · (try dsimp only at hS'); go_simp
    try with_reducible rfl
  simp only [Act.put, List.setIfInBounds_toArray, List.set_cons_zero, List.set_cons_succ]
  refine pz_take 3 (v := ?_) [] rfl (by kernel_rfl) (by kernel_rfl) (by kernel_rfl) (by kernel_rfl) (fun _ _ _ h => h) (by rfl) hS0 (fun w' hS' => ?_) ?_
  rotate_left
  · (try dsimp only at hS'); go_simp
    try with_reducible rfl
  simp only [Act.put, List.setIfInBounds_toArray, List.set_cons_zero, List.set_cons_succ]
  refine pz_take 7 (v := ?_) [] rfl (by kernel_rfl) (by kernel_rfl) (by kernel_rfl) (by kernel_rfl) (fun _ _ _ h => h) (by rfl) hS0 (fun w' hS' => ?_) ?_
  rotate_left
  · (try dsimp only at hS'); go_simp
    try with_reducible rfl
  simp only [Act.put, List.setIfInBounds_toArray, List.set_cons_zero, List.set_cons_succ]
  refine pz_take 8 (v := ?_) [] rfl (by kernel_rfl) (by kernel_rfl) (by kernel_rfl) (by kernel_rfl) (fun _ _ _ h => h) (by rfl) hS0 (fun w' hS' => ?_) ?_
  rotate_left
  · (try dsimp only at hS'); go_simp
    try with_reducible rfl
  simp only [Act.put, List.setIfInBounds_toArray, List.set_cons_zero, List.set_cons_succ]
  refine pz_take 9 (v := ?_) [] rfl (by kernel_rfl) (by kernel_rfl) (by kernel_rfl) (by kernel_rfl) (fun _ _ _ h => h) (by rfl) hS0 (fun w' hS' => ?_) ?_
  rotate_left
  · (try dsimp only at hS'); go_simp
    try with_reducible rfl
  simp only [Act.put, List.setIfInBounds_toArray, List.set_cons_zero, List.set_cons_succ]
  refine pz_take 10 (v := ?_) [] rfl (by kernel_rfl) (by kernel_rfl) (by kernel_rfl) (by kernel_rfl) (fun _ _ _ h => h) (by rfl) hS0 (fun w' hS' => ?_) ?_
  rotate_left
  · (try dsimp only at hS'); go_simp
    try with_reducible rfl
  simp only [Act.put, List.setIfInBounds_toArray, List.set_cons_zero, List.set_cons_succ]
  refine pz_take 11 (v := ?_) [] rfl (by kernel_rfl) (by kernel_rfl) (by kernel_rfl) (by kernel_rfl) (fun _ _ _ h => h) (by rfl) hS0 (fun w' hS' => ?_) ?_
  rotate_left
  · (try dsimp only at hS'); go_simp
    try with_reducible rfl
  simp only [Act.put, List.setIfInBounds_toArray, List.set_cons_zero, List.set_cons_succ]
  clear hS0 q3
  refine pz_done (by kernel_rfl) ?_ _
  go_wp2_with fail
  go_loopg [4, 21] q (fun gh v i wr => ∃ k : Nat, k ≤ q ∧ k + gh = q ∧ i = .int .i64 k ∧ (∃ va vm vc, v = .slice va vm vc) ∧ Hid (OutJ w wr sb S (.slice ao n c) vs mb N now k k v))
  case atStart => exact ⟨0, by omega, by omega, rfl, ⟨_, _, _, rfl⟩, hid (OutJ.start H.out)⟩
  case round =>
    obtain ⟨k, hk, hkg, rfl, ⟨va, vm, vc, rfl⟩, HK⟩ := hrel
    by_cases hlt : k < q
    · have hkn : k < S.l.length := by have := HQ.out; have := HN.out; omega
      obtain ⟨m, hm⟩ : ∃ m, S.l[k]? = some m := ⟨_, List.getElem?_eq_getElem hkn⟩
      obtain ⟨g, o, c', v, e1, hgc, hgs, hgm, hv, hrt, hbl, cb, cs, ca, fs, fa⟩ := HK.out.1.at k m (outK_get now hm)
      injection e1 with e1 e2 e3
      clear e2
      subst e1 e3
      have c3 := HK.out.1.c3
      have cw : wr.cell? ⟨sb, 1, none⟩ = some (.int .i64 S.wait) := by rw [cell_at HK.out.1.blk]; rfl
      have HMB := hid (HOK.out.msg m (List.mem_of_getElem? hm))
      have HW := hid HOK.out.wait
      have hki : (k : Int) < (q : Int) := by omega
      have hkni : (k : Int) < (n : Int) := by have := HN.out; omega
      have HRT := hid (And.intro hrt (And.intro hbl (And.intro hgs hgm)))
      have HM := hid hm
      have HKG := hid hkg
      have HKN := hid hkn
      have HV := hid hv
      clear hrt hbl hgs hgm hm hv hgc hkg hkn hnc hqc HROW
      obtain ⟨mbb, ms, ma⟩ := m
      dsimp only at cs ca
      have hma : -1000000000000 ≤ ma ∧ ma ≤ 1000000000000 := HMB.out.2
      have hno := HNOW.out
      have HP := hid (And.intro HOK.out.epoch (And.intro HOK.out.peer HOK.out.have_))
      have HFI := hid HOK.out.first
      cases ms with
      | false =>
        have HK2 := fun nq => hid (OutJ.mark (nq := nq) HK.out HN.out HM.out (by simp [due]))
        have HDU : Hid (due S now ⟨mbb, false, ma⟩ = true) := hid (by simp [due])
        go_wp2_with fail
        go_quiet (fail)
        go_wp2_with fail
        have HK2 := HK2 nq
        have HWC := HDU
        clear cs ca fs fa HWC c3 cb
        generalize ((wr.drewN nq).setCell _ _).setCell _ _ = W2 at *
        have hcb := HK2.out.1.cellb k _ v (outK_get1 HM.out HDU.out) HV.out
        have c2 : W2.cell? ⟨sb, 2, none⟩ = some (.int .i64 S.first) := by rw [cell_at HK2.out.1.blk]; rfl
        have HCB := hid (And.intro c2 hcb.1)
        have HRB := hid (And.intro hcb.2.1 hcb.2.2)
        obtain ⟨ba, bc, rfl⟩ := hcb.2.1.form
        clear hcb c2
        have HSW : Hid (IntKind.i64.wrap (S.first + (k : Int)) = S.first + (k : Int)) := hid (IntWalk.i64_in _ (by have := HFI.out; omega))
        refine pz_start [14] (fun w' => w'.cell? ⟨sb, 2, none⟩ = some (.int .i64 S.first) ∧ w'.cell? ⟨g, o + k * 3, none⟩ = some (.slice ba mbb.length bc)) (by kernel_rfl) ?_
        have hS0 : W2.drew.cell? ⟨sb, 2, none⟩ = some (.int .i64 S.first) ∧ W2.drew.cell? ⟨g, o + k * 3, none⟩ = some (.slice ba mbb.length bc) := HCB.out
        have q2 : ∀ w' : World, w'.cell? ⟨sb, 2, none⟩ = some (.int .i64 S.first) ∧ w'.cell? ⟨g, o + k * 3, none⟩ = some (.slice ba mbb.length bc) → w'.cell? ⟨sb, 2, none⟩ = some (.int .i64 S.first) := fun _ h => h.1
        have q0 : ∀ w' : World, w'.cell? ⟨sb, 2, none⟩ = some (.int .i64 S.first) ∧ w'.cell? ⟨g, o + k * 3, none⟩ = some (.slice ba mbb.length bc) → w'.cell? ⟨g, o + k * 3, none⟩ = some (.slice ba mbb.length bc) := fun _ h => h.2
        have hsw := HSW.out
        refine pz_take 0 (v := ?_) [[0]] rfl (by kernel_rfl) (by kernel_rfl) (by kernel_rfl) (by kernel_rfl) (fun _ _ _ h => h) (by rfl) hS0 (fun w' hS' => ?_) ?_
        rotate_left
        · (try dsimp only at hS'); go_simp
          try with_reducible rfl
        simp only [Act.put, List.setIfInBounds_toArray, List.set_cons_zero, List.set_cons_succ]
        refine pz_take 1 (v := ?_) [[12, 1]] rfl (by kernel_rfl) (by kernel_rfl) (by kernel_rfl) (by kernel_rfl) (fun _ _ _ h => h) (by rfl) hS0 (fun w' hS' => ?_) ?_
        rotate_left
        · (try dsimp only at hS'); go_simp
          try with_reducible rfl
        simp only [Act.put, List.setIfInBounds_toArray, List.set_cons_zero, List.set_cons_succ]
        refine pz_take 2 (v := ?_) [[12, 7, 5, 4, 3, 2]] rfl (by kernel_rfl) (by kernel_rfl) (by kernel_rfl) (by kernel_rfl) (fun _ _ _ h => h) (by rfl) hS0 (fun w' hS' => ?_) ?_
        rotate_left
        · (try dsimp only at hS'); go_simp
          try with_reducible rfl
        simp only [Act.put, List.setIfInBounds_toArray, List.set_cons_zero, List.set_cons_succ]
        refine pz_take 6 (v := ?_) [[12, 7, 6]] rfl (by kernel_rfl) (by kernel_rfl) (by kernel_rfl) (by kernel_rfl) (fun _ _ _ h => h) (by rfl) hS0 (fun w' hS' => ?_) ?_
        rotate_left
        · (try dsimp only at hS'); go_simp
          try with_reducible rfl
        simp only [Act.put, List.setIfInBounds_toArray, List.set_cons_zero, List.set_cons_succ]
        refine pz_take 8 (v := ?_) [[12, 11, 10, 9, 8]] rfl (by kernel_rfl) (by kernel_rfl) (by kernel_rfl) (by kernel_rfl) (fun _ _ _ h => h) (by rfl) hS0 (fun w' hS' => ?_) ?_
        rotate_left
        · (try dsimp only at hS'); go_simp
          try with_reducible rfl
        simp only [Act.put, List.setIfInBounds_toArray, List.set_cons_zero, List.set_cons_succ]
        refine pz_take 3 (v := ?_) [[12, 7, 5, 4, 3]] rfl (by kernel_rfl) (by kernel_rfl) (by kernel_rfl) (by kernel_rfl) (fun _ _ _ h => h) (by rfl) hS0 (fun w' hS' => ?_) ?_
        rotate_left
        · (try dsimp only at hS'); go_simp
          try with_reducible rfl
        simp only [Act.put, List.setIfInBounds_toArray, List.set_cons_zero, List.set_cons_succ]
        refine pz_take 9 (v := ?_) [[12, 11, 10, 9]] rfl (by kernel_rfl) (by kernel_rfl) (by kernel_rfl) (by kernel_rfl) (fun _ _ _ h => h) (by rfl) hS0 (fun w' hS' => ?_) ?_
        rotate_left
        · (try dsimp only at hS'); go_simp
          try with_reducible rfl
        simp only [Act.put, List.setIfInBounds_toArray, List.set_cons_zero, List.set_cons_succ]
        refine pz_take 4 (v := ?_) [[12, 7, 5, 4]] rfl (by kernel_rfl) (by kernel_rfl) (by kernel_rfl) (by kernel_rfl) (fun _ _ _ h => h) (by rfl) hS0 (fun w' hS' => ?_) ?_
        rotate_left
        · (try dsimp only at hS'); go_simp
          try with_reducible rfl
        simp only [Act.put, List.setIfInBounds_toArray, List.set_cons_zero, List.set_cons_succ]
        refine pz_take 10 (v := ?_) [[12, 11, 10]] rfl (by kernel_rfl) (by kernel_rfl) (by kernel_rfl) (by kernel_rfl) (fun _ _ _ h => h) (by rfl) hS0 (fun w' hS' => ?_) ?_
        rotate_left
        · (try dsimp only at hS'); go_simp
          try with_reducible rfl
        simp only [Act.put, List.setIfInBounds_toArray, List.set_cons_zero, List.set_cons_succ]
        refine pz_take 5 (v := ?_) [[12, 7, 5]] rfl (by kernel_rfl) (by kernel_rfl) (by kernel_rfl) (by kernel_rfl) (fun _ _ _ h => h) (by rfl) hS0 (fun w' hS' => ?_) ?_
        rotate_left
        · (try dsimp only at hS'); go_simp
          try with_reducible rfl
        simp only [Act.put, List.setIfInBounds_toArray, List.set_cons_zero, List.set_cons_succ]
        refine pz_take 11 (v := ?_) [[12, 11]] rfl (by kernel_rfl) (by kernel_rfl) (by kernel_rfl) (by kernel_rfl) (fun _ _ _ h => h) (by rfl) hS0 (fun w' hS' => ?_) ?_
        rotate_left
        · (try dsimp only at hS'); go_simp
          try with_reducible rfl
        simp only [Act.put, List.setIfInBounds_toArray, List.set_cons_zero, List.set_cons_succ]
        refine pz_take 7 (v := ?_) [[12, 7]] rfl (by kernel_rfl) (by kernel_rfl) (by kernel_rfl) (by kernel_rfl) (fun _ _ _ h => h) (by rfl) hS0 (fun w' hS' => ?_) ?_
        rotate_left
        · (try dsimp only at hS'); go_simp
          try with_reducible rfl
        simp only [Act.put, List.setIfInBounds_toArray, List.set_cons_zero, List.set_cons_succ]
        clear hS0 q2 q0 hsw
        refine pz_step 12 rfl (by kernel_rfl) (fun K hK => ?_)
        go_wp2_with fail
        refine (frame_c sb S.epoch S.peer (S.first + k) S.have_ _ mbb _ (HK2.out.1.sh.keep0 (Fr.refl _ _).drew) (HRB.out.1.1.keep0 (Fr.refl _ _).drew) HRB.out.2 ⟨by have := HP.out.1; omega, HP.out.1.2⟩ HP.out.2.1 ⟨by have := HFI.out; omega, by have := HFI.out; have := HKN.out; omega⟩ HP.out.2.2).mono ?_
        rintro e W3 ⟨r3, rfl, o3, f3, n3⟩
        obtain ⟨a3, m3, c3, rfl⟩ := o3.form
        have F3 := hid (F0.and (Fr.refl F0 W2).drew f3)
        have O3 : Hid (Rt W3 (.slice a3 m3 c3) (frameB S (S.first + k) mbb)) := hid (Rt.of_ob o3)
        clear o3 f3 n3
        have HS1 := hid (And.intro ((F3.out.cell (p := ⟨sb, 2, none⟩) (block_lt_of_cell HCB.out.1) (fun e => e)).trans HCB.out.1) ((F3.out.cell (p := ⟨g, o + k * 3, none⟩) (block_lt_of_cell HCB.out.2) (fun e => e)).trans HCB.out.2))
        go_wp2_with fail
        refine hK _ _ _ (fun _ h => h) HS1.out ?_
        clear hK K
        refine pz_step 13 rfl (by kernel_rfl) (fun K hK => ?_)
        go_wp2_with fail
        have FA := hid ((Fr.refl F0 W3).alloc (.cells #[.slice a3 m3 c3] 25))
        refine hK _ _ _ (fun _ h => h) ⟨(FA.out.cell (p := ⟨sb, 2, none⟩) (block_lt_of_cell HS1.out.1) (fun e => e)).trans HS1.out.1, (FA.out.cell (p := ⟨g, o + k * 3, none⟩) (block_lt_of_cell HS1.out.2) (fun e => e)).trans HS1.out.2⟩ ?_
        clear hK K
        obtain ⟨us, hus⟩ := HK2.out.2.1
        have HUS := hid (hus.keep0 (F0.and F3.out FA.out))
        have HLEN : Hid ((frs S now S.first (S.l.take k)).length ≤ 1000000) := hid (by have := frs_len S now (S.l.take k) S.first; have h2 := List.length_take_le k S.l; have := HN.out; omega)
        clear hus
        refine pz_bar 14 rfl (by kernel_rfl) (fun K hK => ?_)
        go_wp2_with (refine wpList_appL (.tmp 54) (.tmp 67) rfl _ (.slice a3 m3 c3) us _ (frameB S (S.first + k) mbb) W3.heap.size 25 (0, 0) rfl rfl (heap_alloc_last _ _) HUS.out (O3.out.keep0 FA.out) HLEN.out rfl ?_)
        intro v4 W4 b4 g4 e4
        have HJ := hid (OutJ.put HK2.out HM.out HDU.out (F0.and F3.out FA.out) b4 HUS.out g4 (fun q hq => (e4 q hq).imp id (fun e => by simpa using e)))
        obtain ⟨va4, vm4, vc4, rfl⟩ := b4.formS
        clear b4 g4 e4
        go_wp2_with fail
        refine hK (fun _ => True) _ _ ?_
        clear hK K
        have hT : True := trivial
        refine pz_take 15 (v := ?_) [] rfl (by kernel_rfl) (by kernel_rfl) (by kernel_rfl) (by kernel_rfl) (fun _ _ _ h => h) (by rfl) hT (fun w' hS' => ?_) ?_
        rotate_left
        · (try dsimp only at hS'); go_simp
          try with_reducible rfl
        simp only [Act.put, List.setIfInBounds_toArray, List.set_cons_zero, List.set_cons_succ]
        refine pz_done (by kernel_rfl) ?_ _
        clear hT
        go_wp2_with fail
        go_roundg (gk - 1)
        case measure => have := HKG.out; omega
        case rel => exact ⟨k + 1, by omega, by have := HKG.out; omega, by go_num, ⟨_, _, _, rfl⟩, HJ⟩
      | true =>
        by_cases hw : now - ma < S.wait
        · go_wp2_with fail
          go_quiet (fail)
          go_wp2_with fail
          go_roundg (gk - 1)
          case measure => have := HKG.out; omega
          case rel => exact ⟨k + 1, by omega, by have := HKG.out; omega, by go_num, ⟨_, _, _, rfl⟩, hid (OutJ.keep1 HK.out HM.out (by simp [due, hw]) ((Fr.refl _ _).drewN _))⟩
        · have HWC := hid hw
          have HK2 := fun nq => hid (OutJ.mark (nq := nq) HK.out HN.out HM.out (by simp [due, hw]))
          have HDU : Hid (due S now ⟨mbb, true, ma⟩ = true) := hid (by simp [due, hw])
          go_wp2_with fail
          go_quiet (fail)
          go_wp2_with fail
          have HK2 := HK2 nq
          clear hw
          clear cs ca fs fa HWC c3 cb
          generalize ((wr.drewN nq).setCell _ _).setCell _ _ = W2 at *
          have hcb := HK2.out.1.cellb k _ v (outK_get1 HM.out HDU.out) HV.out
          have c2 : W2.cell? ⟨sb, 2, none⟩ = some (.int .i64 S.first) := by rw [cell_at HK2.out.1.blk]; rfl
          have HCB := hid (And.intro c2 hcb.1)
          have HRB := hid (And.intro hcb.2.1 hcb.2.2)
          obtain ⟨ba, bc, rfl⟩ := hcb.2.1.form
          clear hcb c2
          have HSW : Hid (IntKind.i64.wrap (S.first + (k : Int)) = S.first + (k : Int)) := hid (IntWalk.i64_in _ (by have := HFI.out; omega))
          refine pz_start [14] (fun w' => w'.cell? ⟨sb, 2, none⟩ = some (.int .i64 S.first) ∧ w'.cell? ⟨g, o + k * 3, none⟩ = some (.slice ba mbb.length bc)) (by kernel_rfl) ?_
          have hS0 : W2.drew.cell? ⟨sb, 2, none⟩ = some (.int .i64 S.first) ∧ W2.drew.cell? ⟨g, o + k * 3, none⟩ = some (.slice ba mbb.length bc) := HCB.out
          have q2 : ∀ w' : World, w'.cell? ⟨sb, 2, none⟩ = some (.int .i64 S.first) ∧ w'.cell? ⟨g, o + k * 3, none⟩ = some (.slice ba mbb.length bc) → w'.cell? ⟨sb, 2, none⟩ = some (.int .i64 S.first) := fun _ h => h.1
          have q0 : ∀ w' : World, w'.cell? ⟨sb, 2, none⟩ = some (.int .i64 S.first) ∧ w'.cell? ⟨g, o + k * 3, none⟩ = some (.slice ba mbb.length bc) → w'.cell? ⟨g, o + k * 3, none⟩ = some (.slice ba mbb.length bc) := fun _ h => h.2
          have hsw := HSW.out
          refine pz_take 0 (v := ?_) [[0]] rfl (by kernel_rfl) (by kernel_rfl) (by kernel_rfl) (by kernel_rfl) (fun _ _ _ h => h) (by rfl) hS0 (fun w' hS' => ?_) ?_
          rotate_left
          · (try dsimp only at hS'); go_simp
            try with_reducible rfl
          simp only [Act.put, List.setIfInBounds_toArray, List.set_cons_zero, List.set_cons_succ]
          refine pz_take 1 (v := ?_) [[12, 1]] rfl (by kernel_rfl) (by kernel_rfl) (by kernel_rfl) (by kernel_rfl) (fun _ _ _ h => h) (by rfl) hS0 (fun w' hS' => ?_) ?_
          rotate_left
          · (try dsimp only at hS'); go_simp
            try with_reducible rfl
          simp only [Act.put, List.setIfInBounds_toArray, List.set_cons_zero, List.set_cons_succ]
          refine pz_take 2 (v := ?_) [[12, 7, 5, 4, 3, 2]] rfl (by kernel_rfl) (by kernel_rfl) (by kernel_rfl) (by kernel_rfl) (fun _ _ _ h => h) (by rfl) hS0 (fun w' hS' => ?_) ?_
          rotate_left
          · (try dsimp only at hS'); go_simp
            try with_reducible rfl
          simp only [Act.put, List.setIfInBounds_toArray, List.set_cons_zero, List.set_cons_succ]
          refine pz_take 6 (v := ?_) [[12, 7, 6]] rfl (by kernel_rfl) (by kernel_rfl) (by kernel_rfl) (by kernel_rfl) (fun _ _ _ h => h) (by rfl) hS0 (fun w' hS' => ?_) ?_
          rotate_left
          · (try dsimp only at hS'); go_simp
            try with_reducible rfl
          simp only [Act.put, List.setIfInBounds_toArray, List.set_cons_zero, List.set_cons_succ]
          refine pz_take 8 (v := ?_) [[12, 11, 10, 9, 8]] rfl (by kernel_rfl) (by kernel_rfl) (by kernel_rfl) (by kernel_rfl) (fun _ _ _ h => h) (by rfl) hS0 (fun w' hS' => ?_) ?_
          rotate_left
          · (try dsimp only at hS'); go_simp
            try with_reducible rfl
          simp only [Act.put, List.setIfInBounds_toArray, List.set_cons_zero, List.set_cons_succ]
          refine pz_take 3 (v := ?_) [[12, 7, 5, 4, 3]] rfl (by kernel_rfl) (by kernel_rfl) (by kernel_rfl) (by kernel_rfl) (fun _ _ _ h => h) (by rfl) hS0 (fun w' hS' => ?_) ?_
          rotate_left
          · (try dsimp only at hS'); go_simp
            try with_reducible rfl
          simp only [Act.put, List.setIfInBounds_toArray, List.set_cons_zero, List.set_cons_succ]
          refine pz_take 9 (v := ?_) [[12, 11, 10, 9]] rfl (by kernel_rfl) (by kernel_rfl) (by kernel_rfl) (by kernel_rfl) (fun _ _ _ h => h) (by rfl) hS0 (fun w' hS' => ?_) ?_
          rotate_left
          · (try dsimp only at hS'); go_simp
            try with_reducible rfl
          simp only [Act.put, List.setIfInBounds_toArray, List.set_cons_zero, List.set_cons_succ]
          refine pz_take 4 (v := ?_) [[12, 7, 5, 4]] rfl (by kernel_rfl) (by kernel_rfl) (by kernel_rfl) (by kernel_rfl) (fun _ _ _ h => h) (by rfl) hS0 (fun w' hS' => ?_) ?_
          rotate_left
          · (try dsimp only at hS'); go_simp
            try with_reducible rfl
          simp only [Act.put, List.setIfInBounds_toArray, List.set_cons_zero, List.set_cons_succ]
          refine pz_take 10 (v := ?_) [[12, 11, 10]] rfl (by kernel_rfl) (by kernel_rfl) (by kernel_rfl) (by kernel_rfl) (fun _ _ _ h => h) (by rfl) hS0 (fun w' hS' => ?_) ?_
          rotate_left
          · (try dsimp only at hS'); go_simp
            try with_reducible rfl
          simp only [Act.put, List.setIfInBounds_toArray, List.set_cons_zero, List.set_cons_succ]
          refine pz_take 5 (v := ?_) [[12, 7, 5]] rfl (by kernel_rfl) (by kernel_rfl) (by kernel_rfl) (by kernel_rfl) (fun _ _ _ h => h) (by rfl) hS0 (fun w' hS' => ?_) ?_
          rotate_left
          · (try dsimp only at hS'); go_simp
            try with_reducible rfl
          simp only [Act.put, List.setIfInBounds_toArray, List.set_cons_zero, List.set_cons_succ]
          refine pz_take 11 (v := ?_) [[12, 11]] rfl (by kernel_rfl) (by kernel_rfl) (by kernel_rfl) (by kernel_rfl) (fun _ _ _ h => h) (by rfl) hS0 (fun w' hS' => ?_) ?_
          rotate_left
          · (try dsimp only at hS'); go_simp
            try with_reducible rfl
          simp only [Act.put, List.setIfInBounds_toArray, List.set_cons_zero, List.set_cons_succ]
          refine pz_take 7 (v := ?_) [[12, 7]] rfl (by kernel_rfl) (by kernel_rfl) (by kernel_rfl) (by kernel_rfl) (fun _ _ _ h => h) (by rfl) hS0 (fun w' hS' => ?_) ?_
          rotate_left
          · (try dsimp only at hS'); go_simp
            try with_reducible rfl
          simp only [Act.put, List.setIfInBounds_toArray, List.set_cons_zero, List.set_cons_succ]
          clear hS0 q2 q0 hsw
          refine pz_step 12 rfl (by kernel_rfl) (fun K hK => ?_)
          go_wp2_with fail
          refine (frame_c sb S.epoch S.peer (S.first + k) S.have_ _ mbb _ (HK2.out.1.sh.keep0 (Fr.refl _ _).drew) (HRB.out.1.1.keep0 (Fr.refl _ _).drew) HRB.out.2 ⟨by have := HP.out.1; omega, HP.out.1.2⟩ HP.out.2.1 ⟨by have := HFI.out; omega, by have := HFI.out; have := HKN.out; omega⟩ HP.out.2.2).mono ?_
          rintro e W3 ⟨r3, rfl, o3, f3, n3⟩
          obtain ⟨a3, m3, c3, rfl⟩ := o3.form
          have F3 := hid (F0.and (Fr.refl F0 W2).drew f3)
          have O3 : Hid (Rt W3 (.slice a3 m3 c3) (frameB S (S.first + k) mbb)) := hid (Rt.of_ob o3)
          clear o3 f3 n3
          have HS1 := hid (And.intro ((F3.out.cell (p := ⟨sb, 2, none⟩) (block_lt_of_cell HCB.out.1) (fun e => e)).trans HCB.out.1) ((F3.out.cell (p := ⟨g, o + k * 3, none⟩) (block_lt_of_cell HCB.out.2) (fun e => e)).trans HCB.out.2))
          go_wp2_with fail
          refine hK _ _ _ (fun _ h => h) HS1.out ?_
          clear hK K
          refine pz_step 13 rfl (by kernel_rfl) (fun K hK => ?_)
          go_wp2_with fail
          have FA := hid ((Fr.refl F0 W3).alloc (.cells #[.slice a3 m3 c3] 25))
          refine hK _ _ _ (fun _ h => h) ⟨(FA.out.cell (p := ⟨sb, 2, none⟩) (block_lt_of_cell HS1.out.1) (fun e => e)).trans HS1.out.1, (FA.out.cell (p := ⟨g, o + k * 3, none⟩) (block_lt_of_cell HS1.out.2) (fun e => e)).trans HS1.out.2⟩ ?_
          clear hK K
          obtain ⟨us, hus⟩ := HK2.out.2.1
          have HUS := hid (hus.keep0 (F0.and F3.out FA.out))
          have HLEN : Hid ((frs S now S.first (S.l.take k)).length ≤ 1000000) := hid (by have := frs_len S now (S.l.take k) S.first; have h2 := List.length_take_le k S.l; have := HN.out; omega)
          clear hus
          refine pz_bar 14 rfl (by kernel_rfl) (fun K hK => ?_)
          go_wp2_with (refine wpList_appL (.tmp 54) (.tmp 67) rfl _ (.slice a3 m3 c3) us _ (frameB S (S.first + k) mbb) W3.heap.size 25 (0, 0) rfl rfl (heap_alloc_last _ _) HUS.out (O3.out.keep0 FA.out) HLEN.out rfl ?_)
          intro v4 W4 b4 g4 e4
          have HJ := hid (OutJ.put HK2.out HM.out HDU.out (F0.and F3.out FA.out) b4 HUS.out g4 (fun q hq => (e4 q hq).imp id (fun e => by simpa using e)))
          obtain ⟨va4, vm4, vc4, rfl⟩ := b4.formS
          clear b4 g4 e4
          go_wp2_with fail
          refine hK (fun _ => True) _ _ ?_
          clear hK K
          have hT : True := trivial
          refine pz_take 15 (v := ?_) [] rfl (by kernel_rfl) (by kernel_rfl) (by kernel_rfl) (by kernel_rfl) (fun _ _ _ h => h) (by rfl) hT (fun w' hS' => ?_) ?_
          rotate_left
          · (try dsimp only at hS'); go_simp
            try with_reducible rfl
          simp only [Act.put, List.setIfInBounds_toArray, List.set_cons_zero, List.set_cons_succ]
          refine pz_done (by kernel_rfl) ?_ _
          clear hT
          go_wp2_with fail
          go_roundg (gk - 1)
          case measure => have := HKG.out; omega
          case rel => exact ⟨k + 1, by omega, by have := HKG.out; omega, by go_num, ⟨_, _, _, rfl⟩, HJ⟩
    · have hkq : k = q := by omega
      subst hkq
      have HL := hid (out_l (S := S) (now := now) (q := k) (by rw [HN.out]; exact HQ.out))
      obtain ⟨h1, ⟨us, h2⟩, h3, h4, h5⟩ := HK.out
      rw [HL.out.1] at h1
      rw [HL.out.2] at h2
      obtain ⟨_, _, e0⟩ := h2.form
      injection e0 with e00 e1 e02
      clear e00 e02
      have H1 := hid h1
      have H2 := hid (And.intro h2 (And.intro h3 (And.intro h4 h5)))
      have c7 : wr.cell? ⟨sb, 7, none⟩ = some (.bool S.tell) := by rw [cell_at h1.blk]; rfl
      have z7 : wr.frozen? ⟨sb, 7, none⟩ = false := frozen_at h1.blk 7
      have E1 := hid e1
      clear h1 h2 h3 h4 h5 e1 HK hqc HROW hnc
      by_cases hfr : outFrames S now = []
      · have hvm : vm = 0 := by rw [E1.out]; show (outFrames S now).length = 0; rw [hfr]; rfl
        subst hvm
        have HFR := hid hfr
        clear hfr
        cases ht : S.tell with
        | true =>
          rw [ht] at c7
          have HT := hid ht
          clear ht
          go_wp2_with fail
          refine (frame_c sb S.epoch S.peer 0 S.have_ _ [] _ H1.out.sh (Rd.nil _) (by simp) ⟨by have := HOK.out.epoch; omega, HOK.out.epoch.2⟩ HOK.out.peer (by omega) HOK.out.have_).mono ?_
          rintro e W3 ⟨r3, rfl, o3, f3, n3⟩
          obtain ⟨a3, m3, c3, rfl⟩ := o3.form
          have F3 := hid f3
          have O3 : Hid (Rt W3 (.slice a3 m3 c3) (frameB S 0 [])) := hid (Rt.of_ob o3)
          clear o3 f3 n3
          have FA := hid ((Fr.refl F0 W3).alloc (.cells #[.slice a3 m3 c3] 25))
          have HUS := hid (H2.out.1.keep0 (F0.and F3.out FA.out))
          have HLEN : Hid ((frs S now S.first (S.l.take 8)).length ≤ 1000000) := hid (by have := E1.out; omega)
          go_wp2_with (refine wpList_appL (.tmp 79) (.tmp 82) rfl _ (.slice a3 m3 c3) us _ (frameB S 0 []) W3.heap.size 25 (0, 0) rfl rfl (heap_alloc_last _ _) HUS.out (O3.out.keep0 FA.out) HLEN.out rfl ?_)
          intro v4 W4 b4 g4 e4
          obtain ⟨va4, vm4, vc4, rfl⟩ := b4.formS
          have H4 := hid (OutJ.tail H1.out HUS.out H2.out.2.1 H2.out.2.2.1 H2.out.2.2.2 (F0.and F3.out FA.out) g4 (fun q hq => (e4 q hq).imp id (fun e => by simpa using e)))
          have HB4 := hid b4
          have z7 : W4.frozen? ⟨sb, 7, none⟩ = false := frozen_at H4.out.1.blk 7
          have c7 : W4.cell? ⟨sb, 7, none⟩ = some (.bool S.tell) := by rw [cell_at H4.out.1.blk]; rfl
          clear b4 g4 e4
          go_wp2_with fail
          rw [Exit.noGoto_ret]
          go_ret
          exact ⟨.slice va4 vm4 vc4, _, rfl, OutJ.fin H4.out.1 HB4.out H4.out.2.1 H4.out.2.2 H2.out.2.2.2 (by
            have e0 : frs S now S.first (S.l.take 8) = [] := HFR.out
            simp only [outSt, HFR.out, HT.out, and_self, if_true, e0, List.nil_append])⟩
        | false =>
          rw [ht] at c7
          have HT := hid ht
          clear ht
          go_wp2_with fail
          rw [Exit.noGoto_ret]
          go_ret
          exact ⟨.slice va 0 vc, _, rfl, OutJ.fin H1.out H2.out.1 H2.out.2.1 H2.out.2.2.1 H2.out.2.2.2 (by simp only [outSt, HFR.out, HT.out, Bool.false_eq_true, and_false, if_false]; exact HFR.out)⟩
      · have hvm : 0 < vm := by
          rw [E1.out]; show 0 < (outFrames S now).length; exact List.length_pos_iff.2 hfr
        have hvm' : (vm : Int) ≠ 0 := by omega
        have HFR := hid hfr
        clear hfr
        go_wp2_with fail
        rw [Exit.noGoto_ret]
        go_ret
        exact ⟨.slice va vm vc, _, rfl, OutJ.fin H1.out H2.out.1 H2.out.2.1 H2.out.2.2.1 H2.out.2.2.2 (by simp only [outSt, HFR.out, false_and, if_false]; rfl)⟩

end Go.Proofs.Ytfalaopljodmnaa
