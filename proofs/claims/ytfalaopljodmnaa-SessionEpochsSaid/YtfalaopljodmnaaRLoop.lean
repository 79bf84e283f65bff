/- SHA-256, the reference's: Sum's inner loops, each by itself. -/
import Derived.Test.YtfalaopljodmnaaRBase
import Derived.Test.YtfalaopljodmnaaPlan
namespace Go.Proofs.Ytfalaopljodmnaa
open Go.RowKit

def loopsOf : Code → List Code
  | .loop c => c :: loopsOf c
  | .seq a b => loopsOf a ++ loopsOf b
  | .block _ c => loopsOf c
  | .scope c => loopsOf c
  | .cond _ a b => loopsOf a ++ loopsOf b
  | _ => []

/-- The body of loop number k of Sum. -/
noncomputable def rbody (k : Nat) : Code := (loopsOf (Try.f75.body.getD .skip)).getD k .skip

set_option maxRecDepth 1000000 in
set_option maxHeartbeats 3200000 in
theorem rl10 {Q0 : Exit → Act → World → Prop} {W0 wr : World} {B M : List UInt8} {g o L c p : Nat} {c0 c1 c2 c3 c4 c6 c7 c11 c12 c13 c14 c15 c16 c17 c18 c19 c20 c21 c22 c23 c24 c25 c26 c27 c28 c29 c30 c31 c32 c33 c34 c35 c36 c37 c38 c39 c40 c41 c42 c43 c44 c45 c46 c47 c48 c49 c50 c51 c52 c53 c54 c55 c56 c57 c58 c59 c60 c61 c62 c63 c64 c65 c66 c67 c68 c69 c70 c71 c72 c73 c74 c75 c76 c77 c78 c79 c80 c81 c82 c83 c84 c85 c86 c87 c88 c89 c90 c91 c92 c93 c94 c95 c96 c97 c98 c99 c100 c101 c102 c103 c104 c105 c106 c107 c108 c109 c110 c111 c112 c113 c114 c115 c116 c117 c118 c119 c120 c121 c122 c123 c124 c125 c126 c127 c128 c129 c130 c131 c132 c133 c134 c135 c136 c137 c138 c139 c140 c141 c142 c143 c144 c145 c146 c147 c148 c149 c150 c151 c152 c153 c154 c155 c156 c157 c158 c159 c160 c161 c162 c163 c164 c165 c166 c167 c168 c169 c170 c171 c172 c173 c174 c175 c176 c177 c178 c179 c180 c181 c182 c183 c184 c185 c186 c187 c188 c189 c190 c191 c192 c193 c194 c195 c196 c197 c198 c199 c200 c201 c202 c203 c204 c205 c206 c207 c208 c209 c210 c211 c212 c213 c214 c215 c216 c217 c218 c219 c220 c221 c222 c223 c224 c225 c226 c227 c228 c229 c230 c231 c232 c233 c234 c235 c236 c237 c238 c239 c240 c241 c242 c243 c244 c245 c246 c247 c248 c249 c250 c251 c252 c253 c254 c255 c256 c257 c258 c259 c260 c261 c262 c263 c264 c265 c266 c267 c268 c269 c270 c271 c272 c273 c274 c275 c276 c277 c278 c279 c280 c281 : Value}
    (HA : Hid (AW W0 wr W0.heap.size 129 B 0)) (HC : Hid (∀ (i : Nat) (u : UInt8), M[i]? = some u → W0.cell? ⟨g, o + i, none⟩ = some (.int .u8 (u.toNat : Int)))) (HB : Hid ((M.drop p).take 64 = B)) (HPL : Hid (p + 64 ≤ L)) (HLM : Hid (L = M.length)) (hL0 : L ≤ 35184372088932)
    (HX : Hid (∀ {x10 x59 x60 x61 x62 x63 x64 x65 x66 x67 x68 x69 x70 x71 x72 x73 x74 x75 x76 x77 x78 x79 x80 x81 x82 x83 x84 x85 x86 x87 x88 x89 x90 x91 x92 x93 x94 x95 x96 x97 x98 x99 x100 x101 x102 x103 x104 x105 : Value} (wr' : World), Hid (AW W0 wr' W0.heap.size 129 B 16) → Q0 (.exit 6) ⟨(c0 :: c1 :: c2 :: c3 :: c4 :: .slice (some ⟨g, o, none⟩) L c :: c6 :: c7 :: .int .i64 (p : Int) :: .pointer (some ⟨W0.heap.size, 0, none⟩) :: x10 :: c11 :: c12 :: c13 :: c14 :: c15 :: c16 :: c17 :: c18 :: c19 :: c20 :: c21 :: c22 :: c23 :: c24 :: c25 :: c26 :: c27 :: c28 :: c29 :: c30 :: c31 :: c32 :: c33 :: c34 :: c35 :: c36 :: c37 :: c38 :: c39 :: c40 :: c41 :: c42 :: c43 :: c44 :: c45 :: c46 :: c47 :: c48 :: c49 :: c50 :: c51 :: c52 :: c53 :: c54 :: c55 :: c56 :: c57 :: c58 :: x59 :: x60 :: x61 :: x62 :: x63 :: x64 :: x65 :: x66 :: x67 :: x68 :: x69 :: x70 :: x71 :: x72 :: x73 :: x74 :: x75 :: x76 :: x77 :: x78 :: x79 :: x80 :: x81 :: x82 :: x83 :: x84 :: x85 :: x86 :: x87 :: x88 :: x89 :: x90 :: x91 :: x92 :: x93 :: x94 :: x95 :: x96 :: x97 :: x98 :: x99 :: x100 :: x101 :: x102 :: x103 :: x104 :: x105 :: c106 :: c107 :: c108 :: c109 :: c110 :: c111 :: c112 :: c113 :: c114 :: c115 :: c116 :: c117 :: c118 :: c119 :: c120 :: c121 :: c122 :: c123 :: c124 :: c125 :: c126 :: c127 :: c128 :: c129 :: c130 :: c131 :: c132 :: c133 :: c134 :: c135 :: c136 :: c137 :: c138 :: c139 :: c140 :: c141 :: c142 :: c143 :: c144 :: c145 :: c146 :: c147 :: c148 :: c149 :: c150 :: c151 :: c152 :: c153 :: c154 :: c155 :: c156 :: c157 :: c158 :: c159 :: c160 :: c161 :: c162 :: c163 :: c164 :: c165 :: c166 :: c167 :: c168 :: c169 :: c170 :: c171 :: c172 :: c173 :: c174 :: c175 :: c176 :: c177 :: c178 :: c179 :: c180 :: c181 :: c182 :: c183 :: c184 :: c185 :: c186 :: c187 :: c188 :: c189 :: c190 :: c191 :: c192 :: c193 :: c194 :: c195 :: c196 :: c197 :: c198 :: c199 :: c200 :: c201 :: c202 :: c203 :: c204 :: c205 :: c206 :: c207 :: c208 :: c209 :: c210 :: c211 :: c212 :: c213 :: c214 :: c215 :: c216 :: c217 :: c218 :: c219 :: c220 :: c221 :: c222 :: c223 :: c224 :: c225 :: c226 :: c227 :: c228 :: c229 :: c230 :: c231 :: c232 :: c233 :: c234 :: c235 :: c236 :: c237 :: c238 :: c239 :: c240 :: c241 :: c242 :: c243 :: c244 :: c245 :: c246 :: c247 :: c248 :: c249 :: c250 :: c251 :: c252 :: c253 :: c254 :: c255 :: c256 :: c257 :: c258 :: c259 :: c260 :: c261 :: c262 :: c263 :: c264 :: c265 :: c266 :: c267 :: c268 :: c269 :: c270 :: c271 :: c272 :: c273 :: c274 :: c275 :: c276 :: c277 :: c278 :: c279 :: c280 :: c281 :: []).toArray, []⟩ wr')) :
    Code.wp Try.prog (Code.loop (rbody 3)) Q0 ⟨(c0 :: c1 :: c2 :: c3 :: c4 :: .slice (some ⟨g, o, none⟩) L c :: c6 :: c7 :: .int .i64 (p : Int) :: .pointer (some ⟨W0.heap.size, 0, none⟩) :: .int .i64 0 :: c11 :: c12 :: c13 :: c14 :: c15 :: c16 :: c17 :: c18 :: c19 :: c20 :: c21 :: c22 :: c23 :: c24 :: c25 :: c26 :: c27 :: c28 :: c29 :: c30 :: c31 :: c32 :: c33 :: c34 :: c35 :: c36 :: c37 :: c38 :: c39 :: c40 :: c41 :: c42 :: c43 :: c44 :: c45 :: c46 :: c47 :: c48 :: c49 :: c50 :: c51 :: c52 :: c53 :: c54 :: c55 :: c56 :: c57 :: c58 :: c59 :: c60 :: c61 :: c62 :: c63 :: c64 :: c65 :: c66 :: c67 :: c68 :: c69 :: c70 :: c71 :: c72 :: c73 :: c74 :: c75 :: c76 :: c77 :: c78 :: c79 :: c80 :: c81 :: c82 :: c83 :: c84 :: c85 :: c86 :: c87 :: c88 :: c89 :: c90 :: c91 :: c92 :: c93 :: c94 :: c95 :: c96 :: c97 :: c98 :: c99 :: c100 :: c101 :: c102 :: c103 :: c104 :: c105 :: c106 :: c107 :: c108 :: c109 :: c110 :: c111 :: c112 :: c113 :: c114 :: c115 :: c116 :: c117 :: c118 :: c119 :: c120 :: c121 :: c122 :: c123 :: c124 :: c125 :: c126 :: c127 :: c128 :: c129 :: c130 :: c131 :: c132 :: c133 :: c134 :: c135 :: c136 :: c137 :: c138 :: c139 :: c140 :: c141 :: c142 :: c143 :: c144 :: c145 :: c146 :: c147 :: c148 :: c149 :: c150 :: c151 :: c152 :: c153 :: c154 :: c155 :: c156 :: c157 :: c158 :: c159 :: c160 :: c161 :: c162 :: c163 :: c164 :: c165 :: c166 :: c167 :: c168 :: c169 :: c170 :: c171 :: c172 :: c173 :: c174 :: c175 :: c176 :: c177 :: c178 :: c179 :: c180 :: c181 :: c182 :: c183 :: c184 :: c185 :: c186 :: c187 :: c188 :: c189 :: c190 :: c191 :: c192 :: c193 :: c194 :: c195 :: c196 :: c197 :: c198 :: c199 :: c200 :: c201 :: c202 :: c203 :: c204 :: c205 :: c206 :: c207 :: c208 :: c209 :: c210 :: c211 :: c212 :: c213 :: c214 :: c215 :: c216 :: c217 :: c218 :: c219 :: c220 :: c221 :: c222 :: c223 :: c224 :: c225 :: c226 :: c227 :: c228 :: c229 :: c230 :: c231 :: c232 :: c233 :: c234 :: c235 :: c236 :: c237 :: c238 :: c239 :: c240 :: c241 :: c242 :: c243 :: c244 :: c245 :: c246 :: c247 :: c248 :: c249 :: c250 :: c251 :: c252 :: c253 :: c254 :: c255 :: c256 :: c257 :: c258 :: c259 :: c260 :: c261 :: c262 :: c263 :: c264 :: c265 :: c266 :: c267 :: c268 :: c269 :: c270 :: c271 :: c272 :: c273 :: c274 :: c275 :: c276 :: c277 :: c278 :: c279 :: c280 :: c281 :: []).toArray, []⟩ wr := by
  conv => arg 2; arg 1; whnf
  go_loopw [10] (fun x wr => ∃ i : Nat, i ≤ 16 ∧ x = .int .i64 i ∧ Hid (AW W0 wr W0.heap.size 129 B i)) (fun x _ => 16 - (intOf x).toNat)
  case atStart => exact ⟨0, by omega, rfl, HA⟩
  case round =>
    clear HA
    obtain ⟨i, hi, rfl, HA⟩ := hrel
    by_cases h16 : i < 16
    · skip
      have hsz : W0.heap.size < wr.heap.size := lt_of_heap HA.out.1
      have h64' : (i : Int) < 64 := by omega
      have hcn : wr.cell? ⟨W0.heap.size, i, none⟩ = some (.int .u32 0) := by rw [cell_at HA.out.1]; exact arrW_next B i (by omega)
      have hf : wr.frozen? ⟨W0.heap.size, i, none⟩ = false := frozen_at HA.out.1 i
      have hin : ∀ q, q < 4 → wr.cell? ⟨g, o + (p + 4 * i + q), none⟩ = some (.int .u8 ((B.getD (4 * i + q) 0).toNat : Int)) := by
        intro q hq
        have hlt2 : p + 4 * i + q < M.length := by have := HPL.out; have := HLM.out; omega
        have h1 := HC.out (p + 4 * i + q) M[p + 4 * i + q] (List.getElem?_eq_getElem hlt2)
        rw [HA.out.2.cell (block_lt_of_cell h1) (fun e => e), h1]
        congr 3
        rw [← HB.out, List.getD_eq_getElem?_getD, List.getElem?_take, if_pos (by omega), List.getElem?_drop, show p + (4 * i + q) = p + 4 * i + q from by omega, List.getElem?_eq_getElem hlt2]
        rfl
      have d0 := hin 0 (by omega)
      have d1 := hin 1 (by omega)
      have d2 := hin 2 (by omega)
      have d3 := hin 3 (by omega)
      clear hin
      have HW : Hid (ownW B i = be4 (B.getD (4 * i) 0) (B.getD (4 * i + 1) 0) (B.getD (4 * i + 2) 0) (B.getD (4 * i + 3) 0)) := hid rfl
      rw [Nat.add_zero, Nat.add_zero] at d0
      generalize B.getD (4 * i) 0 = y0 at *
      generalize B.getD (4 * i + 1) 0 = y1 at *
      generalize B.getD (4 * i + 2) 0 = y2 at *
      generalize B.getD (4 * i + 3) 0 = y3 at *
      have l0 := y0.toNat_lt
      have l1 := y1.toNat_lt
      have l2 := y2.toNat_lt
      have l3 := y3.toNat_lt
      have e4 : IntKind.i64.wrap (4 * (i : Int)) = 4 * (i : Int) := IntWalk.i64_in _ (by omega)
      have hpl := HPL.out
      have e5 : IntKind.i64.wrap ((p : Int) + 4 * (i : Int)) = (p : Int) + 4 * (i : Int) := IntWalk.i64_in _ (by omega)
      have e6 : IntKind.i64.wrap ((p : Int) + 4 * (i : Int) + 1) = (p : Int) + 4 * (i : Int) + 1 := IntWalk.i64_in _ (by omega)
      have e7 : IntKind.i64.wrap ((p : Int) + 4 * (i : Int) + 2) = (p : Int) + 4 * (i : Int) + 2 := IntWalk.i64_in _ (by omega)
      have e8 : IntKind.i64.wrap ((p : Int) + 4 * (i : Int) + 3) = (p : Int) + 4 * (i : Int) + 3 := IntWalk.i64_in _ (by omega)
      have g0 : (p : Int) + 4 * (i : Int) < (L : Int) := by omega
      have g1 : (p : Int) + 4 * (i : Int) + 1 < (L : Int) := by omega
      have g2 : (p : Int) + 4 * (i : Int) + 2 < (L : Int) := by omega
      have g3 : (p : Int) + 4 * (i : Int) + 3 < (L : Int) := by omega
      have n0 : (0 : Int) ≤ (p : Int) + 4 * (i : Int) := by omega
      have n1 : (0 : Int) ≤ (p : Int) + 4 * (i : Int) + 1 := by omega
      have n2 : (0 : Int) ≤ (p : Int) + 4 * (i : Int) + 2 := by omega
      have n3 : (0 : Int) ≤ (p : Int) + 4 * (i : Int) + 3 := by omega
      have t0 : ((p : Int) + 4 * (i : Int)).toNat = p + 4 * i := by omega
      have t1 : ((p : Int) + 4 * (i : Int) + 1).toNat = p + 4 * i + 1 := by omega
      have t2 : ((p : Int) + 4 * (i : Int) + 2).toNat = p + 4 * i + 2 := by omega
      have t3 : ((p : Int) + 4 * (i : Int) + 3).toNat = p + 4 * i + 3 := by omega
      clear hpl
      have E := hid (be4_or y0 y1 y2 y3)
      go_wp2_with fail
      refine wp_region_still_tail 43 (by kernel_rfl) (by kernel_rfl) ?_
      simp only [List.take_succ_cons, List.take_zero, List.drop_succ_cons, List.drop_zero]
      change wpStill _ _ (World.drew _) _ _ _
      repeat still_step
      refine wpStill_nil ?_
      clear e4 e5 e6 e7 e8 g0 g1 g2 g3 n0 n1 n2 n3 t0 t1 t2 t3 d0 d1 d2 d3
      change wpList _ _ _ _ _ (World.drew _)
      go_wp2_with fail
      have hset := HA.out.set (Nat.le_refl _) ((Fr.refl F0 wr).drew) (show i < 64 by omega) _ (show sched B (i + 1) = sched B i ++ [_] from by rw [sched_own B i h16, HW.out, ← E.out])
      exact ⟨⟨i + 1, by omega, by go_num, hid hset⟩, by simp [intOf]; omega⟩

    · have h16' : ¬ (i : Int) < 16 := by omega
      have HA := hid (show AW W0 wr W0.heap.size 129 B 16 from (show i = 16 by omega) ▸ HA.out)
      clear h16 hi
      go_wp2_with fail
      exact HX.out _ HA

set_option maxRecDepth 1000000 in
set_option maxHeartbeats 3200000 in
theorem rl11 {Q0 : Exit → Act → World → Prop} {W0 wr : World} {B : List UInt8} {c0 c1 c2 c3 c4 c5 c6 c7 c8 c10 c12 c13 c14 c15 c16 c17 c18 c19 c20 c21 c22 c23 c24 c25 c26 c27 c28 c29 c30 c31 c32 c33 c34 c35 c36 c37 c38 c39 c40 c41 c42 c43 c44 c45 c46 c47 c48 c49 c50 c51 c52 c53 c54 c55 c56 c57 c58 c59 c60 c61 c62 c63 c64 c65 c66 c67 c68 c69 c70 c71 c72 c73 c74 c75 c76 c77 c78 c79 c80 c81 c82 c83 c84 c85 c86 c87 c88 c89 c90 c91 c92 c93 c94 c95 c96 c97 c98 c99 c100 c101 c102 c103 c104 c105 c106 c107 c108 c109 c110 c111 c112 c113 c114 c115 c116 c117 c118 c119 c120 c121 c122 c123 c124 c125 c126 c127 c128 c129 c130 c131 c132 c133 c134 c135 c136 c137 c138 c139 c140 c141 c142 c143 c144 c145 c146 c147 c148 c149 c150 c151 c152 c153 c154 c155 c156 c157 c158 c159 c160 c161 c162 c163 c164 c165 c166 c167 c168 c169 c170 c171 c172 c173 c174 c175 c176 c177 c178 c179 c180 c181 c182 c183 c184 c185 c186 c187 c188 c189 c190 c191 c192 c193 c194 c195 c196 c197 c198 c199 c200 c201 c202 c203 c204 c205 c206 c207 c208 c209 c210 c211 c212 c213 c214 c215 c216 c217 c218 c219 c220 c221 c222 c223 c224 c225 c226 c227 c228 c229 c230 c231 c232 c233 c234 c235 c236 c237 c238 c239 c240 c241 c242 c243 c244 c245 c246 c247 c248 c249 c250 c251 c252 c253 c254 c255 c256 c257 c258 c259 c260 c261 c262 c263 c264 c265 c266 c267 c268 c269 c270 c271 c272 c273 c274 c275 c276 c277 c278 c279 c280 c281 : Value}
    (HA : Hid (AW W0 wr W0.heap.size 129 B 16))
    (HX : Hid (∀ {x11 x12 x13 x106 x107 x108 x109 x110 x111 x112 x113 x114 x115 x116 x117 x118 x119 x120 x121 x122 x123 x124 x125 x126 x127 x128 x129 x130 x131 x132 x133 x134 x135 x136 x137 x138 x139 x140 x141 x142 x143 x144 x145 x146 x147 x148 x149 x150 x151 x152 x153 x154 x155 x156 x157 x158 : Value} (wr' : World), Hid (AW W0 wr' W0.heap.size 129 B 64) → Q0 (.exit 8) ⟨(c0 :: c1 :: c2 :: c3 :: c4 :: c5 :: c6 :: c7 :: c8 :: .pointer (some ⟨W0.heap.size, 0, none⟩) :: c10 :: x11 :: x12 :: x13 :: c14 :: c15 :: c16 :: c17 :: c18 :: c19 :: c20 :: c21 :: c22 :: c23 :: c24 :: c25 :: c26 :: c27 :: c28 :: c29 :: c30 :: c31 :: c32 :: c33 :: c34 :: c35 :: c36 :: c37 :: c38 :: c39 :: c40 :: c41 :: c42 :: c43 :: c44 :: c45 :: c46 :: c47 :: c48 :: c49 :: c50 :: c51 :: c52 :: c53 :: c54 :: c55 :: c56 :: c57 :: c58 :: c59 :: c60 :: c61 :: c62 :: c63 :: c64 :: c65 :: c66 :: c67 :: c68 :: c69 :: c70 :: c71 :: c72 :: c73 :: c74 :: c75 :: c76 :: c77 :: c78 :: c79 :: c80 :: c81 :: c82 :: c83 :: c84 :: c85 :: c86 :: c87 :: c88 :: c89 :: c90 :: c91 :: c92 :: c93 :: c94 :: c95 :: c96 :: c97 :: c98 :: c99 :: c100 :: c101 :: c102 :: c103 :: c104 :: c105 :: x106 :: x107 :: x108 :: x109 :: x110 :: x111 :: x112 :: x113 :: x114 :: x115 :: x116 :: x117 :: x118 :: x119 :: x120 :: x121 :: x122 :: x123 :: x124 :: x125 :: x126 :: x127 :: x128 :: x129 :: x130 :: x131 :: x132 :: x133 :: x134 :: x135 :: x136 :: x137 :: x138 :: x139 :: x140 :: x141 :: x142 :: x143 :: x144 :: x145 :: x146 :: x147 :: x148 :: x149 :: x150 :: x151 :: x152 :: x153 :: x154 :: x155 :: x156 :: x157 :: x158 :: c159 :: c160 :: c161 :: c162 :: c163 :: c164 :: c165 :: c166 :: c167 :: c168 :: c169 :: c170 :: c171 :: c172 :: c173 :: c174 :: c175 :: c176 :: c177 :: c178 :: c179 :: c180 :: c181 :: c182 :: c183 :: c184 :: c185 :: c186 :: c187 :: c188 :: c189 :: c190 :: c191 :: c192 :: c193 :: c194 :: c195 :: c196 :: c197 :: c198 :: c199 :: c200 :: c201 :: c202 :: c203 :: c204 :: c205 :: c206 :: c207 :: c208 :: c209 :: c210 :: c211 :: c212 :: c213 :: c214 :: c215 :: c216 :: c217 :: c218 :: c219 :: c220 :: c221 :: c222 :: c223 :: c224 :: c225 :: c226 :: c227 :: c228 :: c229 :: c230 :: c231 :: c232 :: c233 :: c234 :: c235 :: c236 :: c237 :: c238 :: c239 :: c240 :: c241 :: c242 :: c243 :: c244 :: c245 :: c246 :: c247 :: c248 :: c249 :: c250 :: c251 :: c252 :: c253 :: c254 :: c255 :: c256 :: c257 :: c258 :: c259 :: c260 :: c261 :: c262 :: c263 :: c264 :: c265 :: c266 :: c267 :: c268 :: c269 :: c270 :: c271 :: c272 :: c273 :: c274 :: c275 :: c276 :: c277 :: c278 :: c279 :: c280 :: c281 :: []).toArray, []⟩ wr')) :
    Code.wp Try.prog (Code.loop (rbody 4)) Q0 ⟨(c0 :: c1 :: c2 :: c3 :: c4 :: c5 :: c6 :: c7 :: c8 :: .pointer (some ⟨W0.heap.size, 0, none⟩) :: c10 :: .int .i64 16 :: c12 :: c13 :: c14 :: c15 :: c16 :: c17 :: c18 :: c19 :: c20 :: c21 :: c22 :: c23 :: c24 :: c25 :: c26 :: c27 :: c28 :: c29 :: c30 :: c31 :: c32 :: c33 :: c34 :: c35 :: c36 :: c37 :: c38 :: c39 :: c40 :: c41 :: c42 :: c43 :: c44 :: c45 :: c46 :: c47 :: c48 :: c49 :: c50 :: c51 :: c52 :: c53 :: c54 :: c55 :: c56 :: c57 :: c58 :: c59 :: c60 :: c61 :: c62 :: c63 :: c64 :: c65 :: c66 :: c67 :: c68 :: c69 :: c70 :: c71 :: c72 :: c73 :: c74 :: c75 :: c76 :: c77 :: c78 :: c79 :: c80 :: c81 :: c82 :: c83 :: c84 :: c85 :: c86 :: c87 :: c88 :: c89 :: c90 :: c91 :: c92 :: c93 :: c94 :: c95 :: c96 :: c97 :: c98 :: c99 :: c100 :: c101 :: c102 :: c103 :: c104 :: c105 :: c106 :: c107 :: c108 :: c109 :: c110 :: c111 :: c112 :: c113 :: c114 :: c115 :: c116 :: c117 :: c118 :: c119 :: c120 :: c121 :: c122 :: c123 :: c124 :: c125 :: c126 :: c127 :: c128 :: c129 :: c130 :: c131 :: c132 :: c133 :: c134 :: c135 :: c136 :: c137 :: c138 :: c139 :: c140 :: c141 :: c142 :: c143 :: c144 :: c145 :: c146 :: c147 :: c148 :: c149 :: c150 :: c151 :: c152 :: c153 :: c154 :: c155 :: c156 :: c157 :: c158 :: c159 :: c160 :: c161 :: c162 :: c163 :: c164 :: c165 :: c166 :: c167 :: c168 :: c169 :: c170 :: c171 :: c172 :: c173 :: c174 :: c175 :: c176 :: c177 :: c178 :: c179 :: c180 :: c181 :: c182 :: c183 :: c184 :: c185 :: c186 :: c187 :: c188 :: c189 :: c190 :: c191 :: c192 :: c193 :: c194 :: c195 :: c196 :: c197 :: c198 :: c199 :: c200 :: c201 :: c202 :: c203 :: c204 :: c205 :: c206 :: c207 :: c208 :: c209 :: c210 :: c211 :: c212 :: c213 :: c214 :: c215 :: c216 :: c217 :: c218 :: c219 :: c220 :: c221 :: c222 :: c223 :: c224 :: c225 :: c226 :: c227 :: c228 :: c229 :: c230 :: c231 :: c232 :: c233 :: c234 :: c235 :: c236 :: c237 :: c238 :: c239 :: c240 :: c241 :: c242 :: c243 :: c244 :: c245 :: c246 :: c247 :: c248 :: c249 :: c250 :: c251 :: c252 :: c253 :: c254 :: c255 :: c256 :: c257 :: c258 :: c259 :: c260 :: c261 :: c262 :: c263 :: c264 :: c265 :: c266 :: c267 :: c268 :: c269 :: c270 :: c271 :: c272 :: c273 :: c274 :: c275 :: c276 :: c277 :: c278 :: c279 :: c280 :: c281 :: []).toArray, []⟩ wr := by
  conv => arg 2; arg 1; whnf
  go_loopw [11] (fun x wr => ∃ i : Nat, 16 ≤ i ∧ i ≤ 64 ∧ x = .int .i64 i ∧ Hid (AW W0 wr W0.heap.size 129 B i)) (fun x _ => 64 - (intOf x).toNat)
  case atStart => exact ⟨16, by omega, by omega, rfl, HA⟩
  case round =>
    clear HA
    obtain ⟨i, hi1, hi, rfl, HA⟩ := hrel
    by_cases hlt6 : i < 64
    · skip
      have hlt6' : (i : Int) < 64 := by omega
      have hsz : W0.heap.size < wr.heap.size := lt_of_heap HA.out.1
      have hf : wr.frozen? ⟨W0.heap.size, i, none⟩ = false := frozen_at HA.out.1 i
      have hc : wr.cell? ⟨W0.heap.size, i, none⟩ = some (.int .u32 0) := by rw [cell_at HA.out.1]; exact arrW_next B i hlt6
      have c16 : wr.cell? ⟨W0.heap.size, i - 16, none⟩ = some (.int .u32 ((sched B i).getD (i - 16) 0)) := by rw [cell_at HA.out.1]; exact arrW_get B i _ (by omega)
      have c15 : wr.cell? ⟨W0.heap.size, i - 15, none⟩ = some (.int .u32 ((sched B i).getD (i - 15) 0)) := by rw [cell_at HA.out.1]; exact arrW_get B i _ (by omega)
      have c7 : wr.cell? ⟨W0.heap.size, i - 7, none⟩ = some (.int .u32 ((sched B i).getD (i - 7) 0)) := by rw [cell_at HA.out.1]; exact arrW_get B i _ (by omega)
      have c2 : wr.cell? ⟨W0.heap.size, i - 2, none⟩ = some (.int .u32 ((sched B i).getD (i - 2) 0)) := by rw [cell_at HA.out.1]; exact arrW_get B i _ (by omega)
      have HN := hid (sched_next B i (by omega))
      obtain ⟨w16a, w16b⟩ := sched_getD_w B i (i - 16)
      obtain ⟨w15a, w15b⟩ := sched_getD_w B i (i - 15)
      obtain ⟨w7a, w7b⟩ := sched_getD_w B i (i - 7)
      obtain ⟨w2a, w2b⟩ := sched_getD_w B i (i - 2)
      generalize (sched B i).getD (i - 16) 0 = x16 at *
      generalize (sched B i).getD (i - 15) 0 = x15 at *
      generalize (sched B i).getD (i - 7) 0 = x7 at *
      generalize (sched B i).getD (i - 2) 0 = x2 at *
      have e15 : IntKind.i64.wrap ((i : Int) - 15) = (i : Int) - 15 := IntWalk.i64_in _ (by omega)
      have e2 : IntKind.i64.wrap ((i : Int) - 2) = (i : Int) - 2 := IntWalk.i64_in _ (by omega)
      have p15 : (15 : Int) ≤ (i : Int) := by omega
      have p2 : (2 : Int) ≤ (i : Int) := by omega
      go_wp2_with fail
      go_quiet ((go_at_call 80; first | exact draws_q rfl (rot_c _ _ _ (by decide) (by decide)) | exact Calls.quiet_of (rot_c _ _ _ (by decide) (by decide))))
      go_wp2_with fail
      go_quiet ((go_at_call 80; first | exact draws_q rfl (rot_c _ _ _ (by decide) (by decide)) | exact Calls.quiet_of (rot_c _ _ _ (by decide) (by decide))))
      go_wp2_with fail
      have e16 : IntKind.i64.wrap ((i : Int) - 16) = (i : Int) - 16 := IntWalk.i64_in _ (by omega)
      have e7 : IntKind.i64.wrap ((i : Int) - 7) = (i : Int) - 7 := IntWalk.i64_in _ (by omega)
      have p16 : (16 : Int) ≤ (i : Int) := by omega
      have p7 : (7 : Int) ≤ (i : Int) := by omega
      have q16 : (i : Int) - 16 < 64 := by omega
      have q7 : (i : Int) - 7 < 64 := by omega
      have t16 : ((i : Int) - 16).toNat = i - 16 := by omega
      have t7 : ((i : Int) - 7).toNat = i - 7 := by omega
      refine wp_region_still_tail 15 (by kernel_rfl) (by kernel_rfl) ?_
      simp only [List.take_succ_cons, List.take_zero, List.drop_succ_cons, List.drop_zero]
      change wpStill _ _ (World.drew _) _ _ _
      repeat still_step
      refine wpStill_nil ?_
      clear e16 e7 p16 p7 q16 q7 t16 t7 e15 e2 p15 p2
      change wpList _ _ _ _ _ (World.drew _)
      go_wp2_with fail
      exact ⟨⟨i + 1, by omega, by omega, by go_num, by first | exact hid (HA.out.set (Nat.le_refl _) ((Fr.refl F0 wr).drewN _) hlt6 _ HN.out) | exact hid (HA.out.set (Nat.le_refl _) (((Fr.refl F0 wr).drewN _).drew) hlt6 _ HN.out)⟩, by simp [intOf]; omega⟩

    · have hlt6' : ¬ (i : Int) < 64 := by omega
      have HA := hid (show AW W0 wr W0.heap.size 129 B 64 from (show i = 64 by omega) ▸ HA.out)
      clear hi1 hi hlt6
      go_wp2_with fail
      exact HX.out _ HA

set_option maxRecDepth 1000000 in
set_option maxHeartbeats 3200000 in
theorem rl15 {Q0 : Exit → Act → World → Prop} {w wr : World} {kb hb wb vb : Nat} {mv : Value} {M B : List UInt8} {S : S8} {c0 c1 c2 c4 c5 c6 c7 c8 c10 c11 c12 c13 c16 c17 c18 c19 c20 c21 c22 c23 c24 c25 c26 c27 c28 c29 c30 c31 c32 c33 c34 c35 c36 c37 c38 c39 c40 c41 c42 c43 c44 c45 c46 c47 c48 c49 c50 c51 c52 c53 c54 c55 c56 c57 c58 c59 c60 c61 c62 c63 c64 c65 c66 c67 c68 c69 c70 c71 c72 c73 c74 c75 c76 c77 c78 c79 c80 c81 c82 c83 c84 c85 c86 c87 c88 c89 c90 c91 c92 c93 c94 c95 c96 c97 c98 c99 c100 c101 c102 c103 c104 c105 c106 c107 c108 c109 c110 c111 c112 c113 c114 c115 c116 c117 c118 c119 c120 c121 c122 c123 c124 c125 c126 c127 c128 c129 c130 c131 c132 c133 c134 c135 c136 c137 c138 c139 c140 c141 c142 c143 c144 c145 c146 c147 c148 c149 c150 c151 c152 c153 c154 c155 c156 c157 c158 c159 c160 c161 c162 c163 c164 c165 c166 c167 c168 c169 c170 c171 c172 c173 c174 c175 c176 c177 c178 c179 c180 c181 c182 c183 c184 c185 c186 c187 c188 c189 c190 c191 c192 c193 c194 c195 c196 c197 c198 c199 c200 c201 c202 c203 c204 c205 c206 c207 c208 c209 c210 c211 c212 c213 c214 c215 c216 c217 c218 c219 c220 c221 c222 c223 c224 c225 c226 c227 c228 c229 c230 c231 c232 c233 c234 c235 c236 c237 c238 c239 c240 c241 c242 c243 c244 c245 c246 c247 c248 c249 c250 c251 c252 c253 c254 c255 c256 c257 c258 c259 c260 c261 c262 c263 c264 c265 c266 c267 c268 c269 c270 c271 c272 c273 c274 c275 c276 c277 c278 c279 c280 c281 : Value}
    (RV6 : Hid (RV w wr kb hb mv M S wb vb B S)) (HSok : Hid S.ok)
    (HX : Hid (∀ {x15 x16 x17 x18 x19 x160 x161 x162 x163 x164 x165 x166 x167 x168 x169 x170 x171 x172 x173 x174 x175 x176 x177 x178 x179 x180 x181 x182 x183 x184 x185 x186 x187 x188 x189 x190 x191 x192 x193 x194 x195 x196 x197 x198 x199 x200 x201 x202 x203 x204 x205 x206 x207 x208 x209 x210 x211 x212 x213 x214 x215 x216 x217 x218 x219 x220 x221 x222 x223 x224 x225 x226 x227 x228 x229 x230 x231 x232 x233 x234 x235 x236 x237 x238 x239 x240 x241 : Value} (wr' : World), Hid (RV w wr' kb hb mv M S wb vb B (rndn S B 64)) → Q0 (.exit 10) ⟨(c0 :: c1 :: c2 :: .pointer (some ⟨kb, 0, none⟩) :: c4 :: c5 :: c6 :: c7 :: c8 :: .pointer (some ⟨wb, 0, none⟩) :: c10 :: c11 :: c12 :: c13 :: .pointer (some ⟨vb, 0, none⟩) :: x15 :: x16 :: x17 :: x18 :: x19 :: c20 :: c21 :: c22 :: c23 :: c24 :: c25 :: c26 :: c27 :: c28 :: c29 :: c30 :: c31 :: c32 :: c33 :: c34 :: c35 :: c36 :: c37 :: c38 :: c39 :: c40 :: c41 :: c42 :: c43 :: c44 :: c45 :: c46 :: c47 :: c48 :: c49 :: c50 :: c51 :: c52 :: c53 :: c54 :: c55 :: c56 :: c57 :: c58 :: c59 :: c60 :: c61 :: c62 :: c63 :: c64 :: c65 :: c66 :: c67 :: c68 :: c69 :: c70 :: c71 :: c72 :: c73 :: c74 :: c75 :: c76 :: c77 :: c78 :: c79 :: c80 :: c81 :: c82 :: c83 :: c84 :: c85 :: c86 :: c87 :: c88 :: c89 :: c90 :: c91 :: c92 :: c93 :: c94 :: c95 :: c96 :: c97 :: c98 :: c99 :: c100 :: c101 :: c102 :: c103 :: c104 :: c105 :: c106 :: c107 :: c108 :: c109 :: c110 :: c111 :: c112 :: c113 :: c114 :: c115 :: c116 :: c117 :: c118 :: c119 :: c120 :: c121 :: c122 :: c123 :: c124 :: c125 :: c126 :: c127 :: c128 :: c129 :: c130 :: c131 :: c132 :: c133 :: c134 :: c135 :: c136 :: c137 :: c138 :: c139 :: c140 :: c141 :: c142 :: c143 :: c144 :: c145 :: c146 :: c147 :: c148 :: c149 :: c150 :: c151 :: c152 :: c153 :: c154 :: c155 :: c156 :: c157 :: c158 :: c159 :: x160 :: x161 :: x162 :: x163 :: x164 :: x165 :: x166 :: x167 :: x168 :: x169 :: x170 :: x171 :: x172 :: x173 :: x174 :: x175 :: x176 :: x177 :: x178 :: x179 :: x180 :: x181 :: x182 :: x183 :: x184 :: x185 :: x186 :: x187 :: x188 :: x189 :: x190 :: x191 :: x192 :: x193 :: x194 :: x195 :: x196 :: x197 :: x198 :: x199 :: x200 :: x201 :: x202 :: x203 :: x204 :: x205 :: x206 :: x207 :: x208 :: x209 :: x210 :: x211 :: x212 :: x213 :: x214 :: x215 :: x216 :: x217 :: x218 :: x219 :: x220 :: x221 :: x222 :: x223 :: x224 :: x225 :: x226 :: x227 :: x228 :: x229 :: x230 :: x231 :: x232 :: x233 :: x234 :: x235 :: x236 :: x237 :: x238 :: x239 :: x240 :: x241 :: c242 :: c243 :: c244 :: c245 :: c246 :: c247 :: c248 :: c249 :: c250 :: c251 :: c252 :: c253 :: c254 :: c255 :: c256 :: c257 :: c258 :: c259 :: c260 :: c261 :: c262 :: c263 :: c264 :: c265 :: c266 :: c267 :: c268 :: c269 :: c270 :: c271 :: c272 :: c273 :: c274 :: c275 :: c276 :: c277 :: c278 :: c279 :: c280 :: c281 :: []).toArray, []⟩ wr')) :
    Code.wp Try.prog (Code.loop (rbody 5)) Q0 ⟨(c0 :: c1 :: c2 :: .pointer (some ⟨kb, 0, none⟩) :: c4 :: c5 :: c6 :: c7 :: c8 :: .pointer (some ⟨wb, 0, none⟩) :: c10 :: c11 :: c12 :: c13 :: .pointer (some ⟨vb, 0, none⟩) :: .int .i64 0 :: c16 :: c17 :: c18 :: c19 :: c20 :: c21 :: c22 :: c23 :: c24 :: c25 :: c26 :: c27 :: c28 :: c29 :: c30 :: c31 :: c32 :: c33 :: c34 :: c35 :: c36 :: c37 :: c38 :: c39 :: c40 :: c41 :: c42 :: c43 :: c44 :: c45 :: c46 :: c47 :: c48 :: c49 :: c50 :: c51 :: c52 :: c53 :: c54 :: c55 :: c56 :: c57 :: c58 :: c59 :: c60 :: c61 :: c62 :: c63 :: c64 :: c65 :: c66 :: c67 :: c68 :: c69 :: c70 :: c71 :: c72 :: c73 :: c74 :: c75 :: c76 :: c77 :: c78 :: c79 :: c80 :: c81 :: c82 :: c83 :: c84 :: c85 :: c86 :: c87 :: c88 :: c89 :: c90 :: c91 :: c92 :: c93 :: c94 :: c95 :: c96 :: c97 :: c98 :: c99 :: c100 :: c101 :: c102 :: c103 :: c104 :: c105 :: c106 :: c107 :: c108 :: c109 :: c110 :: c111 :: c112 :: c113 :: c114 :: c115 :: c116 :: c117 :: c118 :: c119 :: c120 :: c121 :: c122 :: c123 :: c124 :: c125 :: c126 :: c127 :: c128 :: c129 :: c130 :: c131 :: c132 :: c133 :: c134 :: c135 :: c136 :: c137 :: c138 :: c139 :: c140 :: c141 :: c142 :: c143 :: c144 :: c145 :: c146 :: c147 :: c148 :: c149 :: c150 :: c151 :: c152 :: c153 :: c154 :: c155 :: c156 :: c157 :: c158 :: c159 :: c160 :: c161 :: c162 :: c163 :: c164 :: c165 :: c166 :: c167 :: c168 :: c169 :: c170 :: c171 :: c172 :: c173 :: c174 :: c175 :: c176 :: c177 :: c178 :: c179 :: c180 :: c181 :: c182 :: c183 :: c184 :: c185 :: c186 :: c187 :: c188 :: c189 :: c190 :: c191 :: c192 :: c193 :: c194 :: c195 :: c196 :: c197 :: c198 :: c199 :: c200 :: c201 :: c202 :: c203 :: c204 :: c205 :: c206 :: c207 :: c208 :: c209 :: c210 :: c211 :: c212 :: c213 :: c214 :: c215 :: c216 :: c217 :: c218 :: c219 :: c220 :: c221 :: c222 :: c223 :: c224 :: c225 :: c226 :: c227 :: c228 :: c229 :: c230 :: c231 :: c232 :: c233 :: c234 :: c235 :: c236 :: c237 :: c238 :: c239 :: c240 :: c241 :: c242 :: c243 :: c244 :: c245 :: c246 :: c247 :: c248 :: c249 :: c250 :: c251 :: c252 :: c253 :: c254 :: c255 :: c256 :: c257 :: c258 :: c259 :: c260 :: c261 :: c262 :: c263 :: c264 :: c265 :: c266 :: c267 :: c268 :: c269 :: c270 :: c271 :: c272 :: c273 :: c274 :: c275 :: c276 :: c277 :: c278 :: c279 :: c280 :: c281 :: []).toArray, []⟩ wr := by
  conv => arg 2; arg 1; whnf
  go_loopw [15] (fun x wr => ∃ i : Nat, i ≤ 64 ∧ x = .int .i64 i ∧ Hid (RV w wr kb hb mv M S wb vb B (rndn S B i))) (fun x _ => 64 - (intOf x).toNat)
  case atStart => exact ⟨0, by omega, rfl, RV6⟩
  case round =>
    clear RV6
    obtain ⟨i, hi, rfl, HV⟩ := hrel
    by_cases hl6 : i < 64
    · skip
      have hl6' : (i : Int) < 64 := by omega
      have hT : (rndn S B i).ok := rndn_ok S B HSok.out i
      have HN := hid (show rndn S B (i + 1) = rdn (kL.getD i 0) ((sched B 64).getD i 0) (rndn S B i) from rfl)
      generalize rndn S B i = t at *
      obtain ⟨ta, tb, tc, td, te, tf, tg, th⟩ := t
      obtain ⟨⟨a0, a1⟩, ⟨b0, b1⟩, ⟨c0, c1⟩, ⟨d0, d1⟩, ⟨e0, e1⟩, ⟨f0, f1⟩, ⟨g0, g1⟩, ⟨h0, h1⟩⟩ := hT
      dsimp only at a0 a1 b0 b1 c0 c1 d0 d1 e0 e1 f0 f1 g0 g1 h0 h1
      have u0 : wr.cell? ⟨vb, 0, none⟩ = some (.int .u32 ta) := by rw [cell_at HV.out.hv]; rfl
      have u1 : wr.cell? ⟨vb, 1, none⟩ = some (.int .u32 tb) := by rw [cell_at HV.out.hv]; rfl
      have u2 : wr.cell? ⟨vb, 2, none⟩ = some (.int .u32 tc) := by rw [cell_at HV.out.hv]; rfl
      have u3 : wr.cell? ⟨vb, 3, none⟩ = some (.int .u32 td) := by rw [cell_at HV.out.hv]; rfl
      have u4 : wr.cell? ⟨vb, 4, none⟩ = some (.int .u32 te) := by rw [cell_at HV.out.hv]; rfl
      have u5 : wr.cell? ⟨vb, 5, none⟩ = some (.int .u32 tf) := by rw [cell_at HV.out.hv]; rfl
      have u6 : wr.cell? ⟨vb, 6, none⟩ = some (.int .u32 tg) := by rw [cell_at HV.out.hv]; rfl
      have u7 : wr.cell? ⟨vb, 7, none⟩ = some (.int .u32 th) := by rw [cell_at HV.out.hv]; rfl
      have uk : wr.cell? ⟨kb, i, none⟩ = some (.int .u32 (kL.getD i 0)) := by rw [cell_at HV.out.rs.hk]; exact kArr_get i hl6
      have uw : wr.cell? ⟨wb, i, none⟩ = some (.int .u32 ((sched B 64).getD i 0)) := by rw [cell_at HV.out.hw]; exact arrW_get B 64 i hl6
      obtain ⟨k0, k1⟩ := kL_w i
      obtain ⟨w0, w1⟩ := sched_getD_w B 64 i
      generalize kL.getD i 0 = kk at *
      generalize (sched B 64).getD i 0 = ww at *
      go_wp2_with fail
      go_quiet (fail)
      go_wp2_with fail
      go_quiet ((go_at_call 80; exact draws_q rfl (rot_c _ _ _ (by decide) (by decide))))
      go_wp2_with fail
      go_quiet ((go_at_call 80; exact draws_q rfl (rot_c _ _ _ (by decide) (by decide))))
      go_wp2_with (refine wpList_storeRow rfl 131 (.tmp 14) (.tmp 241) rfl vb _ _ 131 HV.out.hv rfl rfl rfl info8a (S8.one ⟨_, _, _, _, _, _, _, _⟩) ?_)
      intro w7 hg7 hf7
      have HR7 := hid (HV.out.setv (t' := rdn kk ww ⟨ta, tb, tc, td, te, tf, tg, th⟩) hg7 hf7)
      rw [← HN.out] at HR7
      clear hg7 hf7
      go_wp2_with fail
      exact ⟨⟨i + 1, by omega, by go_num, HR7⟩, by simp [intOf]; omega⟩

    · have hl6' : ¬ (i : Int) < 64 := by omega
      have HV := hid (show RV w wr kb hb mv M S wb vb B (rndn S B 64) from (show i = 64 by omega) ▸ HV.out)
      clear hl6 hi
      go_wp2_with fail
      exact HX.out _ HV

set_option maxRecDepth 1000000 in
set_option maxHeartbeats 3200000 in
theorem rl20 {Q0 : Exit → Act → World → Prop} {w wr : World} {kb hb wb vb : Nat} {mv : Value} {M B : List UInt8} {S : S8} {T : S8} {c0 c1 c2 c3 c5 c6 c7 c8 c9 c10 c11 c12 c13 c15 c16 c17 c18 c19 c21 c22 c23 c24 c25 c26 c27 c28 c29 c30 c31 c32 c33 c34 c35 c36 c37 c38 c39 c40 c41 c42 c43 c44 c45 c46 c47 c48 c49 c50 c51 c52 c53 c54 c55 c56 c57 c58 c59 c60 c61 c62 c63 c64 c65 c66 c67 c68 c69 c70 c71 c72 c73 c74 c75 c76 c77 c78 c79 c80 c81 c82 c83 c84 c85 c86 c87 c88 c89 c90 c91 c92 c93 c94 c95 c96 c97 c98 c99 c100 c101 c102 c103 c104 c105 c106 c107 c108 c109 c110 c111 c112 c113 c114 c115 c116 c117 c118 c119 c120 c121 c122 c123 c124 c125 c126 c127 c128 c129 c130 c131 c132 c133 c134 c135 c136 c137 c138 c139 c140 c141 c142 c143 c144 c145 c146 c147 c148 c149 c150 c151 c152 c153 c154 c155 c156 c157 c158 c159 c160 c161 c162 c163 c164 c165 c166 c167 c168 c169 c170 c171 c172 c173 c174 c175 c176 c177 c178 c179 c180 c181 c182 c183 c184 c185 c186 c187 c188 c189 c190 c191 c192 c193 c194 c195 c196 c197 c198 c199 c200 c201 c202 c203 c204 c205 c206 c207 c208 c209 c210 c211 c212 c213 c214 c215 c216 c217 c218 c219 c220 c221 c222 c223 c224 c225 c226 c227 c228 c229 c230 c231 c232 c233 c234 c235 c236 c237 c238 c239 c240 c241 c242 c243 c244 c245 c246 c247 c248 c249 c250 c251 c252 c253 c254 c255 c256 c257 c258 c259 c260 c261 c262 c263 c264 c265 c266 c267 c268 c269 c270 c271 c272 c273 c274 c275 c276 c277 c278 c279 c280 c281 : Value}
    (H7 : Hid (RV w wr kb hb mv M (addN S T 0) wb vb B T)) (HSok : Hid S.ok) (HTo : Hid T.ok)
    (HX : Hid (∀ {x20 x242 x243 x244 x245 x246 x247 x248 x249 x250 x251 x252 x253 x254 : Value} (wr' : World), Hid (RV w wr' kb hb mv M (addN S T 8) wb vb B T) → Q0 (.exit 12) ⟨(c0 :: c1 :: c2 :: c3 :: .pointer (some ⟨hb, 0, none⟩) :: c5 :: c6 :: c7 :: c8 :: c9 :: c10 :: c11 :: c12 :: c13 :: .pointer (some ⟨vb, 0, none⟩) :: c15 :: c16 :: c17 :: c18 :: c19 :: x20 :: c21 :: c22 :: c23 :: c24 :: c25 :: c26 :: c27 :: c28 :: c29 :: c30 :: c31 :: c32 :: c33 :: c34 :: c35 :: c36 :: c37 :: c38 :: c39 :: c40 :: c41 :: c42 :: c43 :: c44 :: c45 :: c46 :: c47 :: c48 :: c49 :: c50 :: c51 :: c52 :: c53 :: c54 :: c55 :: c56 :: c57 :: c58 :: c59 :: c60 :: c61 :: c62 :: c63 :: c64 :: c65 :: c66 :: c67 :: c68 :: c69 :: c70 :: c71 :: c72 :: c73 :: c74 :: c75 :: c76 :: c77 :: c78 :: c79 :: c80 :: c81 :: c82 :: c83 :: c84 :: c85 :: c86 :: c87 :: c88 :: c89 :: c90 :: c91 :: c92 :: c93 :: c94 :: c95 :: c96 :: c97 :: c98 :: c99 :: c100 :: c101 :: c102 :: c103 :: c104 :: c105 :: c106 :: c107 :: c108 :: c109 :: c110 :: c111 :: c112 :: c113 :: c114 :: c115 :: c116 :: c117 :: c118 :: c119 :: c120 :: c121 :: c122 :: c123 :: c124 :: c125 :: c126 :: c127 :: c128 :: c129 :: c130 :: c131 :: c132 :: c133 :: c134 :: c135 :: c136 :: c137 :: c138 :: c139 :: c140 :: c141 :: c142 :: c143 :: c144 :: c145 :: c146 :: c147 :: c148 :: c149 :: c150 :: c151 :: c152 :: c153 :: c154 :: c155 :: c156 :: c157 :: c158 :: c159 :: c160 :: c161 :: c162 :: c163 :: c164 :: c165 :: c166 :: c167 :: c168 :: c169 :: c170 :: c171 :: c172 :: c173 :: c174 :: c175 :: c176 :: c177 :: c178 :: c179 :: c180 :: c181 :: c182 :: c183 :: c184 :: c185 :: c186 :: c187 :: c188 :: c189 :: c190 :: c191 :: c192 :: c193 :: c194 :: c195 :: c196 :: c197 :: c198 :: c199 :: c200 :: c201 :: c202 :: c203 :: c204 :: c205 :: c206 :: c207 :: c208 :: c209 :: c210 :: c211 :: c212 :: c213 :: c214 :: c215 :: c216 :: c217 :: c218 :: c219 :: c220 :: c221 :: c222 :: c223 :: c224 :: c225 :: c226 :: c227 :: c228 :: c229 :: c230 :: c231 :: c232 :: c233 :: c234 :: c235 :: c236 :: c237 :: c238 :: c239 :: c240 :: c241 :: x242 :: x243 :: x244 :: x245 :: x246 :: x247 :: x248 :: x249 :: x250 :: x251 :: x252 :: x253 :: x254 :: c255 :: c256 :: c257 :: c258 :: c259 :: c260 :: c261 :: c262 :: c263 :: c264 :: c265 :: c266 :: c267 :: c268 :: c269 :: c270 :: c271 :: c272 :: c273 :: c274 :: c275 :: c276 :: c277 :: c278 :: c279 :: c280 :: c281 :: []).toArray, []⟩ wr')) :
    Code.wp Try.prog (Code.loop (rbody 6)) Q0 ⟨(c0 :: c1 :: c2 :: c3 :: .pointer (some ⟨hb, 0, none⟩) :: c5 :: c6 :: c7 :: c8 :: c9 :: c10 :: c11 :: c12 :: c13 :: .pointer (some ⟨vb, 0, none⟩) :: c15 :: c16 :: c17 :: c18 :: c19 :: .int .i64 0 :: c21 :: c22 :: c23 :: c24 :: c25 :: c26 :: c27 :: c28 :: c29 :: c30 :: c31 :: c32 :: c33 :: c34 :: c35 :: c36 :: c37 :: c38 :: c39 :: c40 :: c41 :: c42 :: c43 :: c44 :: c45 :: c46 :: c47 :: c48 :: c49 :: c50 :: c51 :: c52 :: c53 :: c54 :: c55 :: c56 :: c57 :: c58 :: c59 :: c60 :: c61 :: c62 :: c63 :: c64 :: c65 :: c66 :: c67 :: c68 :: c69 :: c70 :: c71 :: c72 :: c73 :: c74 :: c75 :: c76 :: c77 :: c78 :: c79 :: c80 :: c81 :: c82 :: c83 :: c84 :: c85 :: c86 :: c87 :: c88 :: c89 :: c90 :: c91 :: c92 :: c93 :: c94 :: c95 :: c96 :: c97 :: c98 :: c99 :: c100 :: c101 :: c102 :: c103 :: c104 :: c105 :: c106 :: c107 :: c108 :: c109 :: c110 :: c111 :: c112 :: c113 :: c114 :: c115 :: c116 :: c117 :: c118 :: c119 :: c120 :: c121 :: c122 :: c123 :: c124 :: c125 :: c126 :: c127 :: c128 :: c129 :: c130 :: c131 :: c132 :: c133 :: c134 :: c135 :: c136 :: c137 :: c138 :: c139 :: c140 :: c141 :: c142 :: c143 :: c144 :: c145 :: c146 :: c147 :: c148 :: c149 :: c150 :: c151 :: c152 :: c153 :: c154 :: c155 :: c156 :: c157 :: c158 :: c159 :: c160 :: c161 :: c162 :: c163 :: c164 :: c165 :: c166 :: c167 :: c168 :: c169 :: c170 :: c171 :: c172 :: c173 :: c174 :: c175 :: c176 :: c177 :: c178 :: c179 :: c180 :: c181 :: c182 :: c183 :: c184 :: c185 :: c186 :: c187 :: c188 :: c189 :: c190 :: c191 :: c192 :: c193 :: c194 :: c195 :: c196 :: c197 :: c198 :: c199 :: c200 :: c201 :: c202 :: c203 :: c204 :: c205 :: c206 :: c207 :: c208 :: c209 :: c210 :: c211 :: c212 :: c213 :: c214 :: c215 :: c216 :: c217 :: c218 :: c219 :: c220 :: c221 :: c222 :: c223 :: c224 :: c225 :: c226 :: c227 :: c228 :: c229 :: c230 :: c231 :: c232 :: c233 :: c234 :: c235 :: c236 :: c237 :: c238 :: c239 :: c240 :: c241 :: c242 :: c243 :: c244 :: c245 :: c246 :: c247 :: c248 :: c249 :: c250 :: c251 :: c252 :: c253 :: c254 :: c255 :: c256 :: c257 :: c258 :: c259 :: c260 :: c261 :: c262 :: c263 :: c264 :: c265 :: c266 :: c267 :: c268 :: c269 :: c270 :: c271 :: c272 :: c273 :: c274 :: c275 :: c276 :: c277 :: c278 :: c279 :: c280 :: c281 :: []).toArray, []⟩ wr := by
  conv => arg 2; arg 1; whnf
  go_loopw [20] (fun x wr => ∃ i : Nat, i ≤ 8 ∧ x = .int .i64 i ∧ Hid (RV w wr kb hb mv M (addN S T i) wb vb B T)) (fun x _ => 8 - (intOf x).toNat)
  case atStart => exact ⟨0, by omega, rfl, H7⟩
  case round =>
    clear H7
    obtain ⟨i, hi, rfl, HV⟩ := hrel
    by_cases hl7 : i < 8
    · skip
      have hl7' : (i : Int) < 8 := by omega
      have u7 : wr.cell? ⟨vb, i, none⟩ = some (.int .u32 (T.get i)) := by rw [cell_at HV.out.hv]; exact T.arr_get i hl7
      have uf : wr.frozen? ⟨hb, i, none⟩ = false := frozen_at HV.out.rs.hh i
      have us : wr.cell? ⟨hb, i, none⟩ = some (.int .u32 (S.get i)) := by rw [cell_at HV.out.rs.hh]; exact addN_get S T i hl7
      obtain ⟨t0, t1⟩ := T.get_w HTo.out i
      obtain ⟨s0, s1⟩ := S.get_w HSok.out i
      have HA := hid (addN_set S T i hl7)
      generalize T.get i = tk at *
      generalize S.get i = sk at *
      go_wp2_with fail
      refine wp_region_still_tail 8 (by kernel_rfl) (by kernel_rfl) ?_
      simp only [List.take_succ_cons, List.take_zero, List.drop_succ_cons, List.drop_zero]
      change wpStill _ _ (World.drew _) _ _ _
      repeat still_step
      refine wpStill_nil ?_
      change wpList _ _ _ _ _ (World.drew _)
      go_wp2_with fail
      exact ⟨⟨i + 1, by omega, by go_num, hid (HV.out.seth (by rw [← HA.out]; exact heap_setCell HV.out.rs.hh i _) (((Fr.refl (fun k => k = hb) wr).setCell (p := ⟨hb, i, none⟩) (fun _ => rfl) _).drew))⟩, by simp [intOf]; omega⟩

    · have hl7' : ¬ (i : Int) < 8 := by omega
      have HV := hid (show RV w wr kb hb mv M (addN S T 8) wb vb B T from (show i = 8 by omega) ▸ HV.out)
      clear hl7 hi
      go_wp2_with fail
      exact HX.out _ HV

set_option maxRecDepth 1000000 in
set_option maxHeartbeats 3200000 in
theorem rl21 {Q0 : Exit → Act → World → Prop} {w wr : World} {kb hb : Nat} {S : S8} {c0 c1 c2 c3 c5 c6 c7 c8 c9 c10 c11 c12 c13 c14 c15 c16 c17 c18 c19 c20 c23 c24 c25 c26 c27 c28 c29 c30 c31 c32 c33 c34 c35 c36 c37 c38 c39 c40 c41 c42 c43 c44 c45 c46 c47 c48 c49 c50 c51 c52 c53 c54 c55 c56 c57 c58 c59 c60 c61 c62 c63 c64 c65 c66 c67 c68 c69 c70 c71 c72 c73 c74 c75 c76 c77 c78 c79 c80 c81 c82 c83 c84 c85 c86 c87 c88 c89 c90 c91 c92 c93 c94 c95 c96 c97 c98 c99 c100 c101 c102 c103 c104 c105 c106 c107 c108 c109 c110 c111 c112 c113 c114 c115 c116 c117 c118 c119 c120 c121 c122 c123 c124 c125 c126 c127 c128 c129 c130 c131 c132 c133 c134 c135 c136 c137 c138 c139 c140 c141 c142 c143 c144 c145 c146 c147 c148 c149 c150 c151 c152 c153 c154 c155 c156 c157 c158 c159 c160 c161 c162 c163 c164 c165 c166 c167 c168 c169 c170 c171 c172 c173 c174 c175 c176 c177 c178 c179 c180 c181 c182 c183 c184 c185 c186 c187 c188 c189 c190 c191 c192 c193 c194 c195 c196 c197 c198 c199 c200 c201 c202 c203 c204 c205 c206 c207 c208 c209 c210 c211 c212 c213 c214 c215 c216 c217 c218 c219 c220 c221 c222 c223 c224 c225 c226 c227 c228 c229 c230 c231 c232 c233 c234 c235 c236 c237 c238 c239 c240 c241 c242 c243 c244 c245 c246 c247 c248 c249 c250 c251 c252 c253 c254 c255 c256 c257 c258 c259 c260 c261 c262 c263 c264 c265 c266 c267 c268 c269 c270 c271 c272 c273 c274 c275 c276 c277 c278 c279 c280 c281 : Value}
    (H8 : Hid (RS w wr kb hb (.slice none 0 0) (outN S 0) S)) (HSok : Hid S.ok)
    (HX : Hid (∀ {x22 x255 x256 x257 x258 x259 x260 x261 x262 x263 x264 x265 x266 x267 x268 x269 x270 x271 x272 x273 x274 x275 x276 x277 x278 x279 x280 : Value} (wr' : World) (a : Option Addr) (L c : Nat), Hid (RS w wr' kb hb (.slice a L c) (outN S 8) S) → Q0 (.exit 14) ⟨(c0 :: c1 :: c2 :: c3 :: .pointer (some ⟨hb, 0, none⟩) :: c5 :: c6 :: c7 :: c8 :: c9 :: c10 :: c11 :: c12 :: c13 :: c14 :: c15 :: c16 :: c17 :: c18 :: c19 :: c20 :: .slice a L c :: x22 :: c23 :: c24 :: c25 :: c26 :: c27 :: c28 :: c29 :: c30 :: c31 :: c32 :: c33 :: c34 :: c35 :: c36 :: c37 :: c38 :: c39 :: c40 :: c41 :: c42 :: c43 :: c44 :: c45 :: c46 :: c47 :: c48 :: c49 :: c50 :: c51 :: c52 :: c53 :: c54 :: c55 :: c56 :: c57 :: c58 :: c59 :: c60 :: c61 :: c62 :: c63 :: c64 :: c65 :: c66 :: c67 :: c68 :: c69 :: c70 :: c71 :: c72 :: c73 :: c74 :: c75 :: c76 :: c77 :: c78 :: c79 :: c80 :: c81 :: c82 :: c83 :: c84 :: c85 :: c86 :: c87 :: c88 :: c89 :: c90 :: c91 :: c92 :: c93 :: c94 :: c95 :: c96 :: c97 :: c98 :: c99 :: c100 :: c101 :: c102 :: c103 :: c104 :: c105 :: c106 :: c107 :: c108 :: c109 :: c110 :: c111 :: c112 :: c113 :: c114 :: c115 :: c116 :: c117 :: c118 :: c119 :: c120 :: c121 :: c122 :: c123 :: c124 :: c125 :: c126 :: c127 :: c128 :: c129 :: c130 :: c131 :: c132 :: c133 :: c134 :: c135 :: c136 :: c137 :: c138 :: c139 :: c140 :: c141 :: c142 :: c143 :: c144 :: c145 :: c146 :: c147 :: c148 :: c149 :: c150 :: c151 :: c152 :: c153 :: c154 :: c155 :: c156 :: c157 :: c158 :: c159 :: c160 :: c161 :: c162 :: c163 :: c164 :: c165 :: c166 :: c167 :: c168 :: c169 :: c170 :: c171 :: c172 :: c173 :: c174 :: c175 :: c176 :: c177 :: c178 :: c179 :: c180 :: c181 :: c182 :: c183 :: c184 :: c185 :: c186 :: c187 :: c188 :: c189 :: c190 :: c191 :: c192 :: c193 :: c194 :: c195 :: c196 :: c197 :: c198 :: c199 :: c200 :: c201 :: c202 :: c203 :: c204 :: c205 :: c206 :: c207 :: c208 :: c209 :: c210 :: c211 :: c212 :: c213 :: c214 :: c215 :: c216 :: c217 :: c218 :: c219 :: c220 :: c221 :: c222 :: c223 :: c224 :: c225 :: c226 :: c227 :: c228 :: c229 :: c230 :: c231 :: c232 :: c233 :: c234 :: c235 :: c236 :: c237 :: c238 :: c239 :: c240 :: c241 :: c242 :: c243 :: c244 :: c245 :: c246 :: c247 :: c248 :: c249 :: c250 :: c251 :: c252 :: c253 :: c254 :: x255 :: x256 :: x257 :: x258 :: x259 :: x260 :: x261 :: x262 :: x263 :: x264 :: x265 :: x266 :: x267 :: x268 :: x269 :: x270 :: x271 :: x272 :: x273 :: x274 :: x275 :: x276 :: x277 :: x278 :: x279 :: x280 :: c281 :: []).toArray, []⟩ wr')) :
    Code.wp Try.prog (Code.loop (rbody 7)) Q0 ⟨(c0 :: c1 :: c2 :: c3 :: .pointer (some ⟨hb, 0, none⟩) :: c5 :: c6 :: c7 :: c8 :: c9 :: c10 :: c11 :: c12 :: c13 :: c14 :: c15 :: c16 :: c17 :: c18 :: c19 :: c20 :: .slice none 0 0 :: .int .i64 0 :: c23 :: c24 :: c25 :: c26 :: c27 :: c28 :: c29 :: c30 :: c31 :: c32 :: c33 :: c34 :: c35 :: c36 :: c37 :: c38 :: c39 :: c40 :: c41 :: c42 :: c43 :: c44 :: c45 :: c46 :: c47 :: c48 :: c49 :: c50 :: c51 :: c52 :: c53 :: c54 :: c55 :: c56 :: c57 :: c58 :: c59 :: c60 :: c61 :: c62 :: c63 :: c64 :: c65 :: c66 :: c67 :: c68 :: c69 :: c70 :: c71 :: c72 :: c73 :: c74 :: c75 :: c76 :: c77 :: c78 :: c79 :: c80 :: c81 :: c82 :: c83 :: c84 :: c85 :: c86 :: c87 :: c88 :: c89 :: c90 :: c91 :: c92 :: c93 :: c94 :: c95 :: c96 :: c97 :: c98 :: c99 :: c100 :: c101 :: c102 :: c103 :: c104 :: c105 :: c106 :: c107 :: c108 :: c109 :: c110 :: c111 :: c112 :: c113 :: c114 :: c115 :: c116 :: c117 :: c118 :: c119 :: c120 :: c121 :: c122 :: c123 :: c124 :: c125 :: c126 :: c127 :: c128 :: c129 :: c130 :: c131 :: c132 :: c133 :: c134 :: c135 :: c136 :: c137 :: c138 :: c139 :: c140 :: c141 :: c142 :: c143 :: c144 :: c145 :: c146 :: c147 :: c148 :: c149 :: c150 :: c151 :: c152 :: c153 :: c154 :: c155 :: c156 :: c157 :: c158 :: c159 :: c160 :: c161 :: c162 :: c163 :: c164 :: c165 :: c166 :: c167 :: c168 :: c169 :: c170 :: c171 :: c172 :: c173 :: c174 :: c175 :: c176 :: c177 :: c178 :: c179 :: c180 :: c181 :: c182 :: c183 :: c184 :: c185 :: c186 :: c187 :: c188 :: c189 :: c190 :: c191 :: c192 :: c193 :: c194 :: c195 :: c196 :: c197 :: c198 :: c199 :: c200 :: c201 :: c202 :: c203 :: c204 :: c205 :: c206 :: c207 :: c208 :: c209 :: c210 :: c211 :: c212 :: c213 :: c214 :: c215 :: c216 :: c217 :: c218 :: c219 :: c220 :: c221 :: c222 :: c223 :: c224 :: c225 :: c226 :: c227 :: c228 :: c229 :: c230 :: c231 :: c232 :: c233 :: c234 :: c235 :: c236 :: c237 :: c238 :: c239 :: c240 :: c241 :: c242 :: c243 :: c244 :: c245 :: c246 :: c247 :: c248 :: c249 :: c250 :: c251 :: c252 :: c253 :: c254 :: c255 :: c256 :: c257 :: c258 :: c259 :: c260 :: c261 :: c262 :: c263 :: c264 :: c265 :: c266 :: c267 :: c268 :: c269 :: c270 :: c271 :: c272 :: c273 :: c274 :: c275 :: c276 :: c277 :: c278 :: c279 :: c280 :: c281 :: []).toArray, []⟩ wr := by
  conv => arg 2; arg 1; whnf
  go_loopw [21, 22] (fun x y wr => ∃ (j : Nat) (a : Option Addr) (c L : Nat), j ≤ 8 ∧ y = .int .i64 j ∧ x = .slice a L c ∧ Hid (RS w wr kb hb (.slice a L c) (outN S j) S)) (fun _ y _ => 8 - (intOf y).toNat)
  case atStart => exact ⟨0, _, _, _, by omega, rfl, rfl, H8⟩
  case round =>
    obtain ⟨j, a, c, L, hj, rfl, rfl, H⟩ := hrel
    by_cases hl8 : j < 8
    · have hl8' : (j : Int) < 8 := by omega
      have us : wr.cell? ⟨hb, j, none⟩ = some (.int .u32 (S.get j)) := by rw [cell_at H.out.hh]; exact S.arr_get j hl8
      obtain ⟨s0, s1⟩ := S.get_w HSok.out j
      have HX2 : Hid (outN S (j + 1) = outN S j ++ [UInt8.ofNat ((S.get j).toNat / 16777216), UInt8.ofNat ((S.get j).toNat / 65536), UInt8.ofNat ((S.get j).toNat / 256), UInt8.ofNat (S.get j).toNat]) := hid rfl
      have HG : Hid (∀ w' : World, w'.heap[hb]? = some (.cells S.arr 131 (0, 0)) → w'.cell? ⟨hb, j, none⟩ = some (.int .u32 (S.get j))) := hid (fun w' h => by rw [cell_at h]; exact S.arr_get j hl8)
      generalize S.get j = x at *
      go_wp2_with fail
      refine plan_start (fun w' => w'.cell? ⟨hb, j, none⟩ = some (.int .u32 x)) (by kernel_rfl) ?_
      have hS0 : wr.drew.cell? ⟨hb, j, none⟩ = some (.int .u32 x) := us
      clear us
      refine plan_take 0 (v := ?_) rfl (by kernel_rfl) (by kernel_rfl) (by kernel_rfl) (fun _ _ _ h => h) (by rfl) hS0 (fun w' hS' => ?_) ?_
      rotate_left
      · (try dsimp only at hS'); go_simp
        try with_reducible rfl
      simp only [Act.put, List.setIfInBounds_toArray, List.set_cons_zero, List.set_cons_succ]
      refine plan_take 1 (v := ?_) rfl (by kernel_rfl) (by kernel_rfl) (by kernel_rfl) (fun _ _ _ h => h) (by rfl) hS0 (fun w' hS' => ?_) ?_
      rotate_left
      · (try dsimp only at hS'); go_simp
        try with_reducible rfl
      simp only [Act.put, List.setIfInBounds_toArray, List.set_cons_zero, List.set_cons_succ]
      refine plan_take 2 (v := ?_) rfl (by kernel_rfl) (by kernel_rfl) (by kernel_rfl) (fun _ _ _ h => h) (by rfl) hS0 (fun w' hS' => ?_) ?_
      rotate_left
      · (try dsimp only at hS'); go_simp
        try with_reducible rfl
      simp only [Act.put, List.setIfInBounds_toArray, List.set_cons_zero, List.set_cons_succ]
      refine plan_take 3 (v := ?_) rfl (by kernel_rfl) (by kernel_rfl) (by kernel_rfl) (fun _ _ _ h => h) (by rfl) hS0 (fun w' hS' => ?_) ?_
      rotate_left
      · (try dsimp only at hS'); go_simp
        try with_reducible rfl
      simp only [Act.put, List.setIfInBounds_toArray, List.set_cons_zero, List.set_cons_succ]
      refine plan_take 4 (v := ?_) rfl (by kernel_rfl) (by kernel_rfl) (by kernel_rfl) (fun _ _ _ h => h) (by rfl) hS0 (fun w' hS' => ?_) ?_
      rotate_left
      · (try dsimp only at hS'); go_simp
        try with_reducible rfl
      simp only [Act.put, List.setIfInBounds_toArray, List.set_cons_zero, List.set_cons_succ]
      refine plan_take 5 (v := ?_) rfl (by kernel_rfl) (by kernel_rfl) (by kernel_rfl) (fun _ _ _ h => h) (by rfl) hS0 (fun w' hS' => ?_) ?_
      rotate_left
      · (try dsimp only at hS'); go_simp
        try with_reducible rfl
      simp only [Act.put, List.setIfInBounds_toArray, List.set_cons_zero, List.set_cons_succ]
      refine plan_take 6 (v := ?_) rfl (by kernel_rfl) (by kernel_rfl) (by kernel_rfl) (fun _ _ _ h => h) (by rfl) hS0 (fun w' hS' => ?_) ?_
      rotate_left
      · (try dsimp only at hS'); go_simp
        try with_reducible rfl
      simp only [Act.put, List.setIfInBounds_toArray, List.set_cons_zero, List.set_cons_succ]
      refine plan_take 7 (v := ?_) rfl (by kernel_rfl) (by kernel_rfl) (by kernel_rfl) (fun _ _ _ h => h) (by rfl) hS0 (fun w' hS' => ?_) ?_
      rotate_left
      · (try dsimp only at hS'); go_simp
        try with_reducible rfl
      simp only [Act.put, List.setIfInBounds_toArray, List.set_cons_zero, List.set_cons_succ]
      refine plan_take 8 (v := ?_) rfl (by kernel_rfl) (by kernel_rfl) (by kernel_rfl) (fun _ _ _ h => h) (by rfl) hS0 (fun w' hS' => ?_) ?_
      rotate_left
      · (try dsimp only at hS'); go_simp
        try with_reducible rfl
      simp only [Act.put, List.setIfInBounds_toArray, List.set_cons_zero, List.set_cons_succ]
      refine plan_take 9 (v := ?_) rfl (by kernel_rfl) (by kernel_rfl) (by kernel_rfl) (fun _ _ _ h => h) (by rfl) hS0 (fun w' hS' => ?_) ?_
      rotate_left
      · (try dsimp only at hS'); go_simp
        try with_reducible rfl
      simp only [Act.put, List.setIfInBounds_toArray, List.set_cons_zero, List.set_cons_succ]
      refine plan_take 10 (v := ?_) rfl (by kernel_rfl) (by kernel_rfl) (by kernel_rfl) (fun _ _ _ h => h) (by rfl) hS0 (fun w' hS' => ?_) ?_
      rotate_left
      · (try dsimp only at hS'); go_simp
        try with_reducible rfl
      simp only [Act.put, List.setIfInBounds_toArray, List.set_cons_zero, List.set_cons_succ]
      refine plan_take 11 (v := ?_) rfl (by kernel_rfl) (by kernel_rfl) (by kernel_rfl) (fun _ _ _ h => h) (by rfl) hS0 (fun w' hS' => ?_) ?_
      rotate_left
      · (try dsimp only at hS'); go_simp
        try with_reducible rfl
      simp only [Act.put, List.setIfInBounds_toArray, List.set_cons_zero, List.set_cons_succ]
      refine plan_take 12 (v := ?_) rfl (by kernel_rfl) (by kernel_rfl) (by kernel_rfl) (fun _ _ _ h => h) (by rfl) hS0 (fun w' hS' => ?_) ?_
      rotate_left
      · (try dsimp only at hS'); go_simp
        try with_reducible rfl
      simp only [Act.put, List.setIfInBounds_toArray, List.set_cons_zero, List.set_cons_succ]
      refine plan_take 13 (v := ?_) rfl (by kernel_rfl) (by kernel_rfl) (by kernel_rfl) (fun _ _ _ h => h) (by rfl) hS0 (fun w' hS' => ?_) ?_
      rotate_left
      · (try dsimp only at hS'); go_simp
        try with_reducible rfl
      simp only [Act.put, List.setIfInBounds_toArray, List.set_cons_zero, List.set_cons_succ]
      refine plan_take 14 (v := ?_) rfl (by kernel_rfl) (by kernel_rfl) (by kernel_rfl) (fun _ _ _ h => h) (by rfl) hS0 (fun w' hS' => ?_) ?_
      rotate_left
      · (try dsimp only at hS'); go_simp
        try with_reducible rfl
      simp only [Act.put, List.setIfInBounds_toArray, List.set_cons_zero, List.set_cons_succ]
      refine plan_take 15 (v := ?_) rfl (by kernel_rfl) (by kernel_rfl) (by kernel_rfl) (fun _ _ _ h => h) (by rfl) hS0 (fun w' hS' => ?_) ?_
      rotate_left
      · (try dsimp only at hS'); go_simp
        try with_reducible rfl
      simp only [Act.put, List.setIfInBounds_toArray, List.set_cons_zero, List.set_cons_succ]
      refine plan_take 16 (v := ?_) rfl (by kernel_rfl) (by kernel_rfl) (by kernel_rfl) (fun _ _ _ h => h) (by rfl) hS0 (fun w' hS' => ?_) ?_
      rotate_left
      · (try dsimp only at hS'); go_simp
        try with_reducible rfl
      simp only [Act.put, List.setIfInBounds_toArray, List.set_cons_zero, List.set_cons_succ]
      refine plan_take 17 (v := ?_) rfl (by kernel_rfl) (by kernel_rfl) (by kernel_rfl) (fun _ _ _ h => h) (by rfl) hS0 (fun w' hS' => ?_) ?_
      rotate_left
      · (try dsimp only at hS'); go_simp
        try with_reducible rfl
      simp only [Act.put, List.setIfInBounds_toArray, List.set_cons_zero, List.set_cons_succ]
      refine plan_take 18 (v := ?_) rfl (by kernel_rfl) (by kernel_rfl) (by kernel_rfl) (fun _ _ _ h => h) (by rfl) hS0 (fun w' hS' => ?_) ?_
      rotate_left
      · (try dsimp only at hS'); go_simp
        try with_reducible rfl
      simp only [Act.put, List.setIfInBounds_toArray, List.set_cons_zero, List.set_cons_succ]
      refine plan_take 19 (v := ?_) rfl (by kernel_rfl) (by kernel_rfl) (by kernel_rfl) (fun _ _ _ h => h) (by rfl) hS0 (fun w' hS' => ?_) ?_
      rotate_left
      · (try dsimp only at hS'); go_simp
        try with_reducible rfl
      simp only [Act.put, List.setIfInBounds_toArray, List.set_cons_zero, List.set_cons_succ]
      clear hS0
      refine plan_step 20 rfl (by kernel_rfl) (fun K hK => ?_)
      go_wp2_with fail
      refine hK (fun w' => w'.cell? ⟨hb, j, none⟩ = some (.int .u32 x)) _ _ (fun _ h => h) (HG.out _ ((((Fr.refl F0 wr).alloc _).drew).heap H.out.hh (fun e => e))) ?_
      clear hK K
      refine plan_step 21 rfl (by kernel_rfl) (fun K hK => ?_)
      go_wp2_with (at_builtin; refine wpList_appB rfl (.tmp 259) (.tmp 279) 25 rfl 5 Try.underlying25 infoB _ (.slice (some ⟨wr.heap.size, 0, none⟩) 4 4) (outN S j) [UInt8.ofNat (x.toNat / 16777216), UInt8.ofNat (x.toNat / 65536), UInt8.ofNat (x.toNat / 256), UInt8.ofNat x.toNat] rfl rfl ?c1 ?c2 ?c3 ?_)
      case c1 => exact H.out.ob.keep0 (((Fr.refl _ _).alloc _).drew)
      case c2 =>
        obtain ⟨x, rfl⟩ := Int.eq_ofNat_of_zero_le s0
        exact ((Ob.lit (w := wr) (e := 5) [UInt8.ofNat (x / 16777216), UInt8.ofNat (x / 65536), UInt8.ofNat (x / 256), UInt8.ofNat x] (by simp [b8_ofNat]; omega) (by simp)).keep0 ((Fr.refl _ _).drew)).rd
      case c3 => rw [outN_len]; simp; omega
      intro v3 w3 h3 g3 e3 _
      have r3 := (H.out.keep (((Fr.refl F0 wr).alloc (.cells #[.int .u8 (x / 16777216), .int .u8 (x / 65536 % 256), .int .u8 (x / 256 % 256), .int .u8 (x % 256)] 5)).drew)).grow (M' := outN S (j + 1)) (by simp) (by rw [HX2.out]; exact h3) g3 e3
      obtain ⟨a3, L3, c3, rfl⟩ := h3.form
      have H3 := hid r3
      clear h3 g3 e3 r3
      go_wp2_with fail
      refine hK (fun w' => w'.cell? ⟨hb, j, none⟩ = some (.int .u32 x)) _ _ (fun _ h => h) (HG.out _ H3.out.hh) ?_
      clear hK K
      have hS0 := HG.out _ H3.out.hh
      refine plan_take 22 (v := ?_) rfl (by kernel_rfl) (by kernel_rfl) (by kernel_rfl) (fun _ _ _ h => h) (by rfl) hS0 (fun w' hS' => ?_) ?_
      rotate_left
      · (try dsimp only at hS'); go_simp
        try with_reducible rfl
      simp only [Act.put, List.setIfInBounds_toArray, List.set_cons_zero, List.set_cons_succ]
      clear hS0
      refine plan_done (by kernel_rfl) ?_ _
      go_wp2_with fail
      exact ⟨⟨j + 1, _, _, _, by omega, by go_num, rfl, H3⟩, by simp [intOf]; omega⟩
    · have hl8' : ¬ (j : Int) < 8 := by omega
      have H := hid (show RS w wr kb hb (.slice a L c) (outN S 8) S from (show j = 8 by omega) ▸ H.out)
      clear hl8 hj
      go_wp2_with fail
      exact HX.out _ _ _ _ H

end Go.Proofs.Ytfalaopljodmnaa
