/- RowsOrder's deeds, walked: what follows. -/
import Derived.Test.YtcelhdlppimfbaaR26
import Derived.WalkKit
import Derived.Deep.RegionWith
import Derived.Deep.CutRange
import Derived.Deep.CutBlock
import Derived.Deep.DeepCutAuto
namespace Go.Proofs.Ytcelhdlppimfbaa
open Go.RowKit Go.Shelf Go.Cs
attribute [local go_sem] Oper.semAt_some
set_option maxRecDepth 100000 in
set_option maxHeartbeats 8000000 in
theorem rr2 {K : Act → World → Prop} {W0 w2 : World} {B0 Ba Bb Bo c b o n cap k : Nat} {X X' : Nat → List Int} {f g : Nat → Int} (hTd : Told W0 B0 Ba Bb Bo X f g X' w2) {s u : Int} (hdc : w2.cell? ⟨b, o + k * 3, none⟩ = some (.int .i64 1)) (n1 : ¬ (b = Ba)) (n2 : ¬ (b = Bb)) (hkn : k < n) (hn60 : n ≤ 60) (hc100 : c ≤ 100) {j v : Nat} (hj : j < 8) (hs : s = j) (hu : u = v) (hI : Inv X' (upd f j (c + 1 : Nat)) (upd g j v) (c + 1))
    {c0 c3 c4 c8 c9 c13 c16 c17 c18 c19 c20 c21 c22 c23 c24 c25 c26 c27 c28 c29 c30 c31 c32 c33 c34 c35 c36 c37 c38 c39 c40 c41 c42 c43 c44 c45 c46 c47 c48 c49 c50 c51 c52 c53 c54 c55 c56 c57 c58 c59 c60 c61 c62 c63 c64 c65 c66 c67 c68 c69 c70 c71 c72 c73 c74 c75 c76 c77 c78 c79 c80 c81 c82 c83 c84 c85 c86 c87 c88 c89 c90 c91 c92 c93 c94 c95 c96 c97 c98 c99 c100 c101 c102 c103 c104 c105 c106 c107 c108 c109 c110 c111 c112 c113 c114 c115 c116 c117 c118 c119 c120 c121 c122 c123 c124 c125 c126 c127 c128 c129 c130 c131 c132 c133 c134 c135 c136 c137 c138 c139 c140 c141 c142 c143 c144 c145 c146 c147 c148 c149 c150 c151 c152 c153 c154 c155 c156 c157 c158 c159 c160 c161 c162 c163 c164 c165 c166 c167 c168 c169 c170 c171 c172 c173 c174 c175 c176 c177 c178 c179 c180 c181 c182 c183 c184 c185 c186 c187 c188 c189 c190 c191 c192 c193 c194 c195 c196 c197 c198 c199 c200 c201 c202 c203 c204 c205 c206 c207 c208 c209 c210 c211 c212 c213 c214 c215 c216 c217 c218 c219 c220 c221 c222 c223 c224 c225 c226 c227 c228 c229 c230 c231 c232 c233 c234 c235 c236 c237 c238 c239 c240 c241 c242 c243 c244 c245 c246 c247 c248 c249 c250 c251 c252 c253 c254 c255 c256 c257 c258 c259 c260 c261 c262 c263 c264 c265 c266 c267 c268 c269 c270 c271 c272 c273 c274 c275 c276 c277 c278 c279 c280 c281 : Value}
    (hex : Hid (∀ {z : Nat} {f' g' : Nat → Int} {v223 v224 v225 v226 v227 v228 v229 v230 v231 v232 v233 v234 v235 v236 v237 v238 v239 v240 v241 v242 v243 v244 v245 v246 v247 v248 v249 v250 v251 v252 v253 v254 v255 v256 v257 v258 v259 v260 v261 v262 v263 v264 v265 v266 v267 v268 v269 v270 v271 v272 v273 v274 v275 v276 v277 v278 v279 v280 : Value} {w' : World}, z ≤ c + 1 → Inv X' f' g' z → St W0 B0 Ba Bb X' f' g' w' → Only K .normal ⟨#[c0, .slice (some ⟨b, o, none⟩) n cap, .pointer (some ⟨B0, 0, none⟩), c3, c4, .pointer (some ⟨Ba, 0, none⟩), .pointer (some ⟨Bb, 0, none⟩), .int .i64 (z : Nat), c8, c9, .int .i64 (k : Nat), .int .i64 s, .int .i64 u, c13, .pointer (some ⟨Bo, 0, none⟩), .bool true, c16, c17, c18, c19, c20, c21, c22, c23, c24, c25, c26, c27, c28, c29, c30, c31, c32, c33, c34, c35, c36, c37, c38, c39, c40, c41, c42, c43, c44, c45, c46, c47, c48, c49, c50, c51, c52, c53, c54, c55, c56, c57, c58, c59, c60, c61, c62, c63, c64, c65, c66, c67, c68, c69, c70, c71, c72, c73, c74, c75, c76, c77, c78, c79, c80, c81, c82, c83, c84, c85, c86, c87, c88, c89, c90, c91, c92, c93, c94, c95, c96, c97, c98, c99, c100, c101, c102, c103, c104, c105, c106, c107, c108, c109, c110, c111, c112, c113, c114, c115, c116, c117, c118, c119, c120, c121, c122, c123, c124, c125, c126, c127, c128, c129, c130, c131, c132, c133, c134, c135, c136, c137, c138, c139, c140, c141, c142, c143, c144, c145, c146, c147, c148, c149, c150, c151, c152, c153, c154, c155, c156, c157, c158, c159, c160, c161, c162, c163, c164, c165, c166, c167, c168, c169, c170, c171, c172, c173, c174, c175, c176, c177, c178, c179, c180, c181, c182, c183, c184, c185, c186, c187, c188, c189, c190, c191, c192, c193, c194, c195, c196, c197, c198, c199, c200, c201, c202, c203, c204, c205, c206, c207, c208, c209, c210, c211, c212, c213, c214, c215, c216, c217, c218, c219, c220, c221, c222, v223, v224, v225, v226, v227, v228, v229, v230, v231, v232, v233, v234, v235, v236, v237, v238, v239, v240, v241, v242, v243, v244, v245, v246, v247, v248, v249, v250, v251, v252, v253, v254, v255, v256, v257, v258, v259, v260, v261, v262, v263, v264, v265, v266, v267, v268, v269, v270, v271, v272, v273, v274, v275, v276, v277, v278, v279, v280, c281], []⟩ w')) :
    rrest.wp Try.prog (Only K) ⟨#[c0, .slice (some ⟨b, o, none⟩) n cap, .pointer (some ⟨B0, 0, none⟩), c3, c4, .pointer (some ⟨Ba, 0, none⟩), .pointer (some ⟨Bb, 0, none⟩), .int .i64 (c : Nat), c8, c9, .int .i64 (k : Nat), .int .i64 s, .int .i64 u, c13, .pointer (some ⟨Bo, 0, none⟩), .bool true, c16, c17, c18, c19, c20, c21, c22, c23, c24, c25, c26, c27, c28, c29, c30, c31, c32, c33, c34, c35, c36, c37, c38, c39, c40, c41, c42, c43, c44, c45, c46, c47, c48, c49, c50, c51, c52, c53, c54, c55, c56, c57, c58, c59, c60, c61, c62, c63, c64, c65, c66, c67, c68, c69, c70, c71, c72, c73, c74, c75, c76, c77, c78, c79, c80, c81, c82, c83, c84, c85, c86, c87, c88, c89, c90, c91, c92, c93, c94, c95, c96, c97, c98, c99, c100, c101, c102, c103, c104, c105, c106, c107, c108, c109, c110, c111, c112, c113, c114, c115, c116, c117, c118, c119, c120, c121, c122, c123, c124, c125, c126, c127, c128, c129, c130, c131, c132, c133, c134, c135, c136, c137, c138, c139, c140, c141, c142, c143, c144, c145, c146, c147, c148, c149, c150, c151, c152, c153, c154, c155, c156, c157, c158, c159, c160, c161, c162, c163, c164, c165, c166, c167, c168, c169, c170, c171, c172, c173, c174, c175, c176, c177, c178, c179, c180, c181, c182, c183, c184, c185, c186, c187, c188, c189, c190, c191, c192, c193, c194, c195, c196, c197, c198, c199, c200, c201, c202, c203, c204, c205, c206, c207, c208, c209, c210, c211, c212, c213, c214, c215, c216, c217, c218, c219, c220, c221, c222, c223, c224, c225, c226, c227, c228, c229, c230, c231, c232, c233, c234, c235, c236, c237, c238, c239, c240, c241, c242, c243, c244, c245, c246, c247, c248, c249, c250, c251, c252, c253, c254, c255, c256, c257, c258, c259, c260, c261, c262, c263, c264, c265, c266, c267, c268, c269, c270, c271, c272, c273, c274, c275, c276, c277, c278, c279, c280, c281], []⟩ w2 := by
  conv => arg 2; whnf
  have hn5 := hTd.st.ab
  have n5 : ¬ (Ba = Bb) := hn5
  have n6 : ¬ (Bb = Ba) := fun e => hn5 e.symm
  have n7 : ¬ (Ba = b) := fun e => n1 e.symm
  have n8 : ¬ (Bb = b) := fun e => n2 e.symm
  have hkd : (k : Int) < (n : Int) := by omega
  have hk0 : (0 : Int) ≤ (k : Int) := by omega
  obtain ⟨ws', V', _⟩ := hTd.row
  obtain ⟨ws0, V0, _⟩ := hTd.st.row
  have HRt := Lib.hid (fun w hr => right_ref ws' V'.len X' w hr)
  have hi' := Lib.hid V'.info
  have hi2 := Lib.hid V'.info'
  have hi0 := Lib.hid V0.info
  have hl2 := Lib.hid (show ws'.length = ws0.length by rw [V'.len, V0.len])
  have hone2 := Lib.hid V'.one
  have hL0 := V'.heap
  have hrd := V'.rd
  subst hs hu
  rw [hI.right] at HRt
  rw [show ((c + 1 : Nat) : Int) = (c : Int) + 1 by omega] at hI
  have hI2 := Lib.hid hI
  clear hI
  have HV0 := Lib.hid V0
  have hTd := Lib.hid hTd
  clear V0 V' hn5
  go_wp2_with (refine op_value rfl (run_load_row 23 (.tmp 14) rfl Bo rfl 23 ws'.toArray (0, 0) _ hL0 Try.underlying23 rfl hi'.out) ?_)
  refine (HRt.out _ hrd).mono ?_
  rintro e w3 ⟨rfl, hN⟩
  have hT := Lib.hid (hTd.out.new hN)
  have HLo := Lib.hid (hN.heap hL0 id)
  have HV3 := Lib.hid (HV0.out.new hN)
  have HZo := Lib.hid HV3.out.heap
  have hrd3 := Lib.hid (hrd.new hN)
  have hdc3 := hN.cell hdc id
  clear hL0 hrd hN hTd HV0 HRt hdc
  obtain ⟨ca, fa⟩ := ints8_cell hT.out.st.at' hj
  obtain ⟨cb, fb⟩ := ints8_cell hT.out.st.of' hj
  obtain ⟨old, hold⟩ : ∃ x, f j = x := ⟨_, rfl⟩
  obtain ⟨old2, hold2⟩ : ∃ x, g j = x := ⟨_, rfl⟩
  rw [hold] at ca
  rw [hold2] at cb
  have hT4 := (hT.out.setA hj ((c : Int) + 1)).setB hj (v : Int)
  have HL := (setM _ Bb j (.int .i64 (v : Int))).heap ((setM w3 Ba j (.int .i64 ((c : Int) + 1))).heap HLo.out hT.out.ne.2.1) hT.out.ne.2.2
  have HZ := (setM _ Bb j (.int .i64 (v : Int))).heap ((setM w3 Ba j (.int .i64 ((c : Int) + 1))).heap HZo.out hT.out.st.a0.1) hT.out.st.a0.2
  have hS2 := Lib.hid (hT4.take HL)
  have hj0 : (0 : Int) ≤ (j : Int) := by omega
  have hj8 : (j : Int) < 8 := by omega
  clear hold hold2 hT hT4
  go_wp2_with (first | (refine op_value rfl (run_load_row 23 (.tmp 14) rfl Bo rfl 23 ws'.toArray (0, 0) _ HL Try.underlying23 rfl hi'.out) ?_) | (refine op_skip rfl (run_store_row 23 (.tmp 2) (.tmp 280) rfl B0 rfl 23 ws0 ws' rfl HZ hi2.out hl2.out hone2.out) ?_))
  exact hex.out (z := c + 1) (by omega) hI2.out hS2.out
set_option maxRecDepth 100000 in
set_option maxHeartbeats 8000000 in
theorem rr3 {K : Act → World → Prop} {W0 w2 : World} {B0 Ba Bb Bo c b o n cap k : Nat} {X X' : Nat → List Int} {f g : Nat → Int} (hTd : Told W0 B0 Ba Bb Bo X f g X' w2) {s u : Int} {d : Int} (hd0 : ¬ d = 0) (hd1 : ¬ d = 1) (hdc : w2.cell? ⟨b, o + k * 3, none⟩ = some (.int .i64 d)) (n1 : ¬ (b = Ba)) (n2 : ¬ (b = Bb)) (hkn : k < n) (hn60 : n ≤ 60) (hc100 : c ≤ 100) {j : Nat} (hj : j < 8) (hs : s = j) (hI : Inv X' (upd f j 0) g c)
    {c0 c3 c4 c8 c9 c13 c16 c17 c18 c19 c20 c21 c22 c23 c24 c25 c26 c27 c28 c29 c30 c31 c32 c33 c34 c35 c36 c37 c38 c39 c40 c41 c42 c43 c44 c45 c46 c47 c48 c49 c50 c51 c52 c53 c54 c55 c56 c57 c58 c59 c60 c61 c62 c63 c64 c65 c66 c67 c68 c69 c70 c71 c72 c73 c74 c75 c76 c77 c78 c79 c80 c81 c82 c83 c84 c85 c86 c87 c88 c89 c90 c91 c92 c93 c94 c95 c96 c97 c98 c99 c100 c101 c102 c103 c104 c105 c106 c107 c108 c109 c110 c111 c112 c113 c114 c115 c116 c117 c118 c119 c120 c121 c122 c123 c124 c125 c126 c127 c128 c129 c130 c131 c132 c133 c134 c135 c136 c137 c138 c139 c140 c141 c142 c143 c144 c145 c146 c147 c148 c149 c150 c151 c152 c153 c154 c155 c156 c157 c158 c159 c160 c161 c162 c163 c164 c165 c166 c167 c168 c169 c170 c171 c172 c173 c174 c175 c176 c177 c178 c179 c180 c181 c182 c183 c184 c185 c186 c187 c188 c189 c190 c191 c192 c193 c194 c195 c196 c197 c198 c199 c200 c201 c202 c203 c204 c205 c206 c207 c208 c209 c210 c211 c212 c213 c214 c215 c216 c217 c218 c219 c220 c221 c222 c223 c224 c225 c226 c227 c228 c229 c230 c231 c232 c233 c234 c235 c236 c237 c238 c239 c240 c241 c242 c243 c244 c245 c246 c247 c248 c249 c250 c251 c252 c253 c254 c255 c256 c257 c258 c259 c260 c261 c262 c263 c264 c265 c266 c267 c268 c269 c270 c271 c272 c273 c274 c275 c276 c277 c278 c279 c280 c281 : Value}
    (hex : Hid (∀ {z : Nat} {f' g' : Nat → Int} {v223 v224 v225 v226 v227 v228 v229 v230 v231 v232 v233 v234 v235 v236 v237 v238 v239 v240 v241 v242 v243 v244 v245 v246 v247 v248 v249 v250 v251 v252 v253 v254 v255 v256 v257 v258 v259 v260 v261 v262 v263 v264 v265 v266 v267 v268 v269 v270 v271 v272 v273 v274 v275 v276 v277 v278 v279 v280 : Value} {w' : World}, z ≤ c + 1 → Inv X' f' g' z → St W0 B0 Ba Bb X' f' g' w' → Only K .normal ⟨#[c0, .slice (some ⟨b, o, none⟩) n cap, .pointer (some ⟨B0, 0, none⟩), c3, c4, .pointer (some ⟨Ba, 0, none⟩), .pointer (some ⟨Bb, 0, none⟩), .int .i64 (z : Nat), c8, c9, .int .i64 (k : Nat), .int .i64 s, .int .i64 u, c13, .pointer (some ⟨Bo, 0, none⟩), .bool true, c16, c17, c18, c19, c20, c21, c22, c23, c24, c25, c26, c27, c28, c29, c30, c31, c32, c33, c34, c35, c36, c37, c38, c39, c40, c41, c42, c43, c44, c45, c46, c47, c48, c49, c50, c51, c52, c53, c54, c55, c56, c57, c58, c59, c60, c61, c62, c63, c64, c65, c66, c67, c68, c69, c70, c71, c72, c73, c74, c75, c76, c77, c78, c79, c80, c81, c82, c83, c84, c85, c86, c87, c88, c89, c90, c91, c92, c93, c94, c95, c96, c97, c98, c99, c100, c101, c102, c103, c104, c105, c106, c107, c108, c109, c110, c111, c112, c113, c114, c115, c116, c117, c118, c119, c120, c121, c122, c123, c124, c125, c126, c127, c128, c129, c130, c131, c132, c133, c134, c135, c136, c137, c138, c139, c140, c141, c142, c143, c144, c145, c146, c147, c148, c149, c150, c151, c152, c153, c154, c155, c156, c157, c158, c159, c160, c161, c162, c163, c164, c165, c166, c167, c168, c169, c170, c171, c172, c173, c174, c175, c176, c177, c178, c179, c180, c181, c182, c183, c184, c185, c186, c187, c188, c189, c190, c191, c192, c193, c194, c195, c196, c197, c198, c199, c200, c201, c202, c203, c204, c205, c206, c207, c208, c209, c210, c211, c212, c213, c214, c215, c216, c217, c218, c219, c220, c221, c222, v223, v224, v225, v226, v227, v228, v229, v230, v231, v232, v233, v234, v235, v236, v237, v238, v239, v240, v241, v242, v243, v244, v245, v246, v247, v248, v249, v250, v251, v252, v253, v254, v255, v256, v257, v258, v259, v260, v261, v262, v263, v264, v265, v266, v267, v268, v269, v270, v271, v272, v273, v274, v275, v276, v277, v278, v279, v280, c281], []⟩ w')) :
    rrest.wp Try.prog (Only K) ⟨#[c0, .slice (some ⟨b, o, none⟩) n cap, .pointer (some ⟨B0, 0, none⟩), c3, c4, .pointer (some ⟨Ba, 0, none⟩), .pointer (some ⟨Bb, 0, none⟩), .int .i64 (c : Nat), c8, c9, .int .i64 (k : Nat), .int .i64 s, .int .i64 u, c13, .pointer (some ⟨Bo, 0, none⟩), .bool true, c16, c17, c18, c19, c20, c21, c22, c23, c24, c25, c26, c27, c28, c29, c30, c31, c32, c33, c34, c35, c36, c37, c38, c39, c40, c41, c42, c43, c44, c45, c46, c47, c48, c49, c50, c51, c52, c53, c54, c55, c56, c57, c58, c59, c60, c61, c62, c63, c64, c65, c66, c67, c68, c69, c70, c71, c72, c73, c74, c75, c76, c77, c78, c79, c80, c81, c82, c83, c84, c85, c86, c87, c88, c89, c90, c91, c92, c93, c94, c95, c96, c97, c98, c99, c100, c101, c102, c103, c104, c105, c106, c107, c108, c109, c110, c111, c112, c113, c114, c115, c116, c117, c118, c119, c120, c121, c122, c123, c124, c125, c126, c127, c128, c129, c130, c131, c132, c133, c134, c135, c136, c137, c138, c139, c140, c141, c142, c143, c144, c145, c146, c147, c148, c149, c150, c151, c152, c153, c154, c155, c156, c157, c158, c159, c160, c161, c162, c163, c164, c165, c166, c167, c168, c169, c170, c171, c172, c173, c174, c175, c176, c177, c178, c179, c180, c181, c182, c183, c184, c185, c186, c187, c188, c189, c190, c191, c192, c193, c194, c195, c196, c197, c198, c199, c200, c201, c202, c203, c204, c205, c206, c207, c208, c209, c210, c211, c212, c213, c214, c215, c216, c217, c218, c219, c220, c221, c222, c223, c224, c225, c226, c227, c228, c229, c230, c231, c232, c233, c234, c235, c236, c237, c238, c239, c240, c241, c242, c243, c244, c245, c246, c247, c248, c249, c250, c251, c252, c253, c254, c255, c256, c257, c258, c259, c260, c261, c262, c263, c264, c265, c266, c267, c268, c269, c270, c271, c272, c273, c274, c275, c276, c277, c278, c279, c280, c281], []⟩ w2 := by
  conv => arg 2; whnf
  have hn5 := hTd.st.ab
  have n5 : ¬ (Ba = Bb) := hn5
  have n6 : ¬ (Bb = Ba) := fun e => hn5 e.symm
  have n7 : ¬ (Ba = b) := fun e => n1 e.symm
  have n8 : ¬ (Bb = b) := fun e => n2 e.symm
  have hkd : (k : Int) < (n : Int) := by omega
  have hk0 : (0 : Int) ≤ (k : Int) := by omega
  obtain ⟨ws', V', _⟩ := hTd.row
  obtain ⟨ws0, V0, _⟩ := hTd.st.row
  have HRt := Lib.hid (fun w hr => right_ref ws' V'.len X' w hr)
  have hi' := Lib.hid V'.info
  have hi2 := Lib.hid V'.info'
  have hi0 := Lib.hid V0.info
  have hl2 := Lib.hid (show ws'.length = ws0.length by rw [V'.len, V0.len])
  have hone2 := Lib.hid V'.one
  have hL0 := V'.heap
  have hrd := V'.rd
  subst hs
  rw [hI.right] at HRt
  have hI2 := Lib.hid hI
  clear hI
  have HV0 := Lib.hid V0
  have hTd := Lib.hid hTd
  clear V0 V' hn5
  go_wp2_with (refine op_value rfl (run_load_row 23 (.tmp 14) rfl Bo rfl 23 ws'.toArray (0, 0) _ hL0 Try.underlying23 rfl hi'.out) ?_)
  refine (HRt.out _ hrd).mono ?_
  rintro e w3 ⟨rfl, hN⟩
  have hT := Lib.hid (hTd.out.new hN)
  have HLo := Lib.hid (hN.heap hL0 id)
  have HV3 := Lib.hid (HV0.out.new hN)
  have HZo := Lib.hid HV3.out.heap
  have hrd3 := Lib.hid (hrd.new hN)
  have hdc3 := hN.cell hdc id
  clear hL0 hrd hN hTd HV0 HRt hdc
  obtain ⟨ca, fa⟩ := ints8_cell hT.out.st.at' hj
  obtain ⟨cb, fb⟩ := ints8_cell hT.out.st.of' hj
  obtain ⟨old, hold⟩ : ∃ x, f j = x := ⟨_, rfl⟩
  obtain ⟨old2, hold2⟩ : ∃ x, g j = x := ⟨_, rfl⟩
  rw [hold] at ca
  rw [hold2] at cb
  have hT4 := hT.out.setA hj 0
  have HL := (setM w3 Ba j (.int .i64 0)).heap HLo.out hT.out.ne.2.1
  have HZ := (setM w3 Ba j (.int .i64 0)).heap HZo.out hT.out.st.a0.1
  have hS2 := Lib.hid (hT4.take HL)
  have b0 : (d == 0) = false := by simpa using hd0
  have b1 : (d == 1) = false := by simpa using hd1
  have b2 : (d != 0) = true := by simpa using hd0
  have b3 : (d != 1) = true := by simpa using hd1
  have hj0 : (0 : Int) ≤ (j : Int) := by omega
  have hj8 : (j : Int) < 8 := by omega
  clear hold hold2 hT hT4 hd0 hd1
  go_wp2_with (first | (refine op_value rfl (run_load_row 23 (.tmp 14) rfl Bo rfl 23 ws'.toArray (0, 0) _ HL Try.underlying23 rfl hi'.out) ?_) | (refine op_skip rfl (run_store_row 23 (.tmp 2) (.tmp 280) rfl B0 rfl 23 ws0 ws' rfl HZ hi2.out hl2.out hone2.out) ?_))
  exact hex.out (z := c) (by omega) hI2.out hS2.out
end Go.Proofs.Ytcelhdlppimfbaa
