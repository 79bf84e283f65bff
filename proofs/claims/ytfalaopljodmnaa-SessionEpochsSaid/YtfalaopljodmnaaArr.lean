/- Whole arrays and structs: loaded, stored. No program in sight. -/
import Derived.Test.YtfalaopljodmnaaBase
import Derived.Laws.Rows
import Derived.Deep.MidRow
namespace Go.Proofs.Ytfalaopljodmnaa
open Go.RowKit

/-- A whole block is stored into. -/
theorem setCells_whole {w : World} {b : Nat} {cur cs : Array Value} {t : TypeId} (hg : w.heap[b]? = some (.cells cur t (0, 0))) (hs : cs.size = cur.size) : (w.setCells b 0 cs.toList).heap[b]? = some (.cells cs t (0, 0)) := by
  obtain ⟨cur', h1, h2, h3, _⟩ := heap_setCells (t := t) (f := (0, 0)) b cs.toList 0 w cur hg (by simp [hs])
  rw [h1]
  congr 2
  apply Array.ext
  · omega
  · intro i hi hi'
    have := h3 i (by simpa using hi')
    rw [Nat.zero_add, Array.getElem?_eq_getElem hi, Array.getElem?_toList, Array.getElem?_eq_getElem hi'] at this
    exact Option.some.inj this

theorem there_whole {w : World} {b : Nat} {cur : Array Value} {t : TypeId} (hg : w.heap[b]? = some (.cells cur t (0, 0))) {n : Nat} (hn : n = cur.size) : w.there b 0 n := by
  intro j hj
  rw [Nat.zero_add]
  exact ⟨by rw [cell_at hg, Array.getElem?_eq_getElem (by omega)]; rfl, frozen_at hg j⟩

theorem wpList_loadRow {P : Program} {w : World} {ops : Array Oper} {rest : List Oper} {o : Oper} {a : Act} {Q : Exit → Act → World → Prop} (hgd : Region.wanted o (yielded ops a.tmps) = true) (ty : TypeId) (x : Operand) (ho : o.op = .load ty x)
    (g : Nat) (hx : a.eval x = .pointer (some ⟨g, 0, none⟩)) (t : TypeId) (cs : Array Value) (fr : Nat × Nat) (d : TypeDesc) (hg : w.heap[g]? = some (.cells cs t fr))
    (hu : P.underlying ty = some d) (hd : (match d with | .struct _ | .array _ _ => true | _ => false) = true) (hi : (P.info? ty).map (·.size) = some cs.size)
    (h : wpList P ops Q rest (a.put o.dst (.agg cs)) w) : wpList P ops Q (o :: rest) a w :=
  wpList_want hgd fun _ hK => wp_load_row ty x ho g hx t cs fr d hg hu hd hi (hK _ _ h)

theorem wpList_storeRow {P : Program} {w : World} {ops : Array Oper} {rest : List Oper} {o : Oper} {a : Act} {Q : Exit → Act → World → Prop} (hgd : Region.wanted o (yielded ops a.tmps) = true) (ty : TypeId) (x y : Operand) (ho : o.op = .store ty x y)
    (b : Nat) (cur cs : Array Value) (t : TypeId) (hg : w.heap[b]? = some (.cells cur t (0, 0))) (hx : a.eval x = .pointer (some ⟨b, 0, none⟩)) (hy : a.eval y = .agg cs) (hs : cs.size = cur.size)
    (hi : (P.info? ty).map (·.size) = some cs.size) (h1 : cs.all (·.oneCell') = true)
    (h : ∀ w', w'.heap[b]? = some (.cells cs t (0, 0)) → Fr (fun k => k = b) w w' → wpList P ops Q rest (a.put o.dst undef) w') : wpList P ops Q (o :: rest) a w :=
  wpList_want hgd fun _ hK => wp_store_mid ty x y ho b 0 cs hx hy (there_whole hg hs) hi h1 (hK _ _ (h _ (setCells_whole hg hs) (Fr.setCells b 0 cs.toList w)))

end Go.Proofs.Ytfalaopljodmnaa
