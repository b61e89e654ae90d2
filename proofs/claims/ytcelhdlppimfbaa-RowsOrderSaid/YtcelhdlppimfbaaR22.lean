/- RowsOrder's deeds, walked: pushed. -/
import Derived.Test.YtcelhdlppimfbaaR21
import Derived.WalkKit
import Derived.Deep.RegionWith
import Derived.Deep.CutRange
import Derived.Deep.CutBlock
import Derived.Deep.DeepCutAuto
namespace Go.Proofs.Ytcelhdlppimfbaa
open Go.RowKit Go.Shelf Go.Cs
attribute [local go_sem] Oper.semAt_some
/-- The block of that number. -/
def blockOf (id : Nat) : Code → Option Code
  | .block i c => if i = id then some (.block i c) else blockOf id c
  | .seq a b => match blockOf id a with
    | some c => some c
    | none => blockOf id b
  | .loop c => blockOf id c
  | .scope c => blockOf id c
  | .cond _ a b => match blockOf id a with
    | some c => some c
    | none => blockOf id b
  | _ => none
/-- What is done, by the deed's number. -/
noncomputable def rsw : Code := ((Try.f3.body.bind (blockOf 6)).getD .skip)
/-- It ends as usual, and so. -/
def Only (K : Act → World → Prop) : Exit → Act → World → Prop
  | .normal, a, w => K a w
  | _, _, _ => False
theorem Only.imp {K : Act → World → Prop} {Q : Exit → Act → World → Prop} (h : ∀ a w, K a w → Q .normal a w) : ∀ (e : Exit) (a : Act) (w : World), Only K e a w → Q e a w := fun e a w hk => by
  cases e <;> first | exact h a w hk | exact (hk : False).elim
set_option maxRecDepth 100000 in
set_option maxHeartbeats 8000000 in
theorem ro0 {K : Act → World → Prop} {W0 w2 : World} {B0 Ba Bb Bo c : Nat} {X : Nat → List Int} {f g : Nat → Int} (hS : StO W0 B0 Ba Bb Bo X f g nil8 w2) (hI : Inv X f g c) {s u : Int} (s1 : -9223372036854775808 ≤ s) (s2 : s ≤ 9223372036854775807) (q1 : -9223372036854775808 ≤ u) (q2 : u ≤ 9223372036854775807)
    {may : Bool} (Hmay : Hid (may = decide (0 ≤ s ∧ s < 8 ∧ 0 ≤ u ∧ u < 8))) (hc100 : c ≤ 100)
    {c0 c1 c3 c4 c8 c9 c10 c17 c18 c19 c20 c21 c22 c23 c24 c25 c26 c27 c28 c29 c30 c31 c32 c33 c34 c35 c36 c37 c38 c39 c40 c41 c42 c43 c44 c45 c46 c47 c48 c49 c50 c51 c52 c53 c54 c55 c56 c57 c58 c59 c60 c61 c62 c63 c64 c65 c66 c67 c68 c69 c70 c71 c72 c73 c74 c75 c76 c77 c78 c79 c80 c81 c82 c83 c84 c85 c86 c87 c88 c89 c90 c92 c93 c94 c95 c96 c97 c98 c99 c100 c101 c102 c103 c104 c105 c106 c107 c108 c109 c110 c111 c112 c113 c114 c115 c116 c117 c118 c119 c120 c121 c122 c123 c124 c125 c126 c127 c128 c129 c130 c131 c132 c133 c134 c135 c136 c137 c138 c139 c140 c141 c142 c143 c144 c145 c146 c147 c148 c149 c150 c151 c152 c153 c154 c155 c156 c157 c158 c159 c160 c161 c162 c163 c164 c165 c166 c167 c168 c169 c170 c171 c172 c173 c174 c175 c176 c177 c178 c179 c180 c181 c182 c183 c184 c185 c186 c187 c188 c189 c190 c191 c192 c193 c194 c195 c196 c197 c198 c199 c200 c201 c202 c203 c204 c205 c206 c207 c208 c209 c210 c211 c212 c213 c214 c215 c216 c217 c218 c219 c220 c221 c222 c223 c224 c225 c226 c227 c228 c229 c230 c231 c232 c233 c234 c235 c236 c237 c238 c239 c240 c241 c242 c243 c244 c245 c246 c247 c248 c249 c250 c251 c252 c253 c254 c255 c256 c257 c258 c259 c260 c261 c262 c263 c264 c265 c266 c267 c268 c269 c270 c271 c272 c273 c274 c275 c276 c277 c278 c279 c280 c281 : Value}
    (hex : Hid (∀ {n' : Int} {ok : Bool} {v16 v17 v92 v93 v94 v95 v96 v97 v98 v99 v100 v101 v102 v103 v104 v105 v106 v107 v108 v109 v110 v111 v112 v113 v114 v115 v116 v117 v118 v119 v120 v121 v122 v123 v124 v125 v126 v127 v128 v129 v130 v131 v132 v133 v134 v135 v136 v137 v138 v139 v140 v141 v142 v143 v144 v145 v146 v147 v148 v149 v150 v151 v152 v153 v154 v155 v156 v157 v158 v159 v160 v161 v162 v163 v164 v165 v166 v167 v168 v169 v170 v171 v172 v173 v174 v175 v176 v177 v178 v179 v180 v181 v182 v183 v184 v185 v186 v187 v188 v189 v190 v191 v192 v193 v194 v195 v196 v197 v198 v199 v200 v201 v202 v203 v204 v205 v206 v207 v208 v209 v210 v211 v212 v213 v214 v215 v216 v217 v218 v219 v220 v221 v222 : Value} {X' : Nat → List Int} {w' : World}, Deed 0 u c X f g n' ok X' → Told W0 B0 Ba Bb Bo X f g X' w' → Only K .normal ⟨#[c0, c1, .pointer (some ⟨B0, 0, none⟩), c3, c4, .pointer (some ⟨Ba, 0, none⟩), .pointer (some ⟨Bb, 0, none⟩), .int .i64 (c : Nat), c8, c9, c10, .int .i64 n', .int .i64 u, .bool may, .pointer (some ⟨Bo, 0, none⟩), .bool ok, v16, v17, c18, c19, c20, c21, c22, c23, c24, c25, c26, c27, c28, c29, c30, c31, c32, c33, c34, c35, c36, c37, c38, c39, c40, c41, c42, c43, c44, c45, c46, c47, c48, c49, c50, c51, c52, c53, c54, c55, c56, c57, c58, c59, c60, c61, c62, c63, c64, c65, c66, c67, c68, c69, c70, c71, c72, c73, c74, c75, c76, c77, c78, c79, c80, c81, c82, c83, c84, c85, c86, c87, c88, c89, c90, .int .i64 0, v92, v93, v94, v95, v96, v97, v98, v99, v100, v101, v102, v103, v104, v105, v106, v107, v108, v109, v110, v111, v112, v113, v114, v115, v116, v117, v118, v119, v120, v121, v122, v123, v124, v125, v126, v127, v128, v129, v130, v131, v132, v133, v134, v135, v136, v137, v138, v139, v140, v141, v142, v143, v144, v145, v146, v147, v148, v149, v150, v151, v152, v153, v154, v155, v156, v157, v158, v159, v160, v161, v162, v163, v164, v165, v166, v167, v168, v169, v170, v171, v172, v173, v174, v175, v176, v177, v178, v179, v180, v181, v182, v183, v184, v185, v186, v187, v188, v189, v190, v191, v192, v193, v194, v195, v196, v197, v198, v199, v200, v201, v202, v203, v204, v205, v206, v207, v208, v209, v210, v211, v212, v213, v214, v215, v216, v217, v218, v219, v220, v221, v222, c223, c224, c225, c226, c227, c228, c229, c230, c231, c232, c233, c234, c235, c236, c237, c238, c239, c240, c241, c242, c243, c244, c245, c246, c247, c248, c249, c250, c251, c252, c253, c254, c255, c256, c257, c258, c259, c260, c261, c262, c263, c264, c265, c266, c267, c268, c269, c270, c271, c272, c273, c274, c275, c276, c277, c278, c279, c280, c281], []⟩ w')) :
    rsw.wp Try.prog (Only K) ⟨#[c0, c1, .pointer (some ⟨B0, 0, none⟩), c3, c4, .pointer (some ⟨Ba, 0, none⟩), .pointer (some ⟨Bb, 0, none⟩), .int .i64 (c : Nat), c8, c9, c10, .int .i64 s, .int .i64 u, .bool may, .pointer (some ⟨Bo, 0, none⟩), .bool false, .int .i64 (-1), c17, c18, c19, c20, c21, c22, c23, c24, c25, c26, c27, c28, c29, c30, c31, c32, c33, c34, c35, c36, c37, c38, c39, c40, c41, c42, c43, c44, c45, c46, c47, c48, c49, c50, c51, c52, c53, c54, c55, c56, c57, c58, c59, c60, c61, c62, c63, c64, c65, c66, c67, c68, c69, c70, c71, c72, c73, c74, c75, c76, c77, c78, c79, c80, c81, c82, c83, c84, c85, c86, c87, c88, c89, c90, .int .i64 0, c92, c93, c94, c95, c96, c97, c98, c99, c100, c101, c102, c103, c104, c105, c106, c107, c108, c109, c110, c111, c112, c113, c114, c115, c116, c117, c118, c119, c120, c121, c122, c123, c124, c125, c126, c127, c128, c129, c130, c131, c132, c133, c134, c135, c136, c137, c138, c139, c140, c141, c142, c143, c144, c145, c146, c147, c148, c149, c150, c151, c152, c153, c154, c155, c156, c157, c158, c159, c160, c161, c162, c163, c164, c165, c166, c167, c168, c169, c170, c171, c172, c173, c174, c175, c176, c177, c178, c179, c180, c181, c182, c183, c184, c185, c186, c187, c188, c189, c190, c191, c192, c193, c194, c195, c196, c197, c198, c199, c200, c201, c202, c203, c204, c205, c206, c207, c208, c209, c210, c211, c212, c213, c214, c215, c216, c217, c218, c219, c220, c221, c222, c223, c224, c225, c226, c227, c228, c229, c230, c231, c232, c233, c234, c235, c236, c237, c238, c239, c240, c241, c242, c243, c244, c245, c246, c247, c248, c249, c250, c251, c252, c253, c254, c255, c256, c257, c258, c259, c260, c261, c262, c263, c264, c265, c266, c267, c268, c269, c270, c271, c272, c273, c274, c275, c276, c277, c278, c279, c280, c281], []⟩ w2 := by
  conv => arg 2; whnf
  obtain ⟨ws, V, _⟩ := hS.st.row
  have hl := V.len
  have HP := Lib.hid (push_any ws hl X s u w2 V.rd hI.in64 (fun u hu => hI.len u hu) s1 s2 q1 q2)
  have hV := V.heap
  have hVi := Lib.hid V.info
  have HO := Lib.hid hS
  rcases hI.push s u with ⟨k, v, hk, hv, rfl, rfl, h0, hok, hJ⟩ | ⟨hok, hX, hz⟩
  · have hm : may = true := by rw [Hmay.out]; exact decide_eq_true ⟨by omega, by omega, by omega, by omega⟩
    rw [hok] at HP
    have HJ := Lib.hid hJ
    have H0 := Lib.hid h0
    clear Hmay hS V hI hok hJ h0
    subst hm
    go_wp2_with (refine op_value rfl (run_load_row 23 (.tmp 2) rfl B0 rfl 23 ws.toArray (0, 0) _ hV Try.underlying23 rfl hVi.out) ?_)
    refine HP.out.mono ?_
    rintro e w3 ⟨ws', rfl, hl', hO, hN⟩
    have hT := Lib.hid (HO.out.store hN hl' hO)
    have hB := (HO.out.newW hN).heap
    have hi := Lib.hid (show (Try.prog.info? 23).map (·.size) = some ws'.length by rw [hl']; exact info23)
    have hone := Lib.hid (hO.one hl')
    have Hl' := Lib.hid hl'
    obtain ⟨ca, fa⟩ := ints8_cell hT.out.st.at' hk
    rw [H0.out] at ca
    clear hO hN HP hV hl'
    have hmm : (max (min (k : Int) 7) 0).toNat = k := by omega
    have hm0 : (0 : Int) ≤ max (min (k : Int) 7) 0 := by omega
    have hm8 : max (min (k : Int) 7) 0 < (8 : Int) := by omega
    go_wp2_with (refine op_skip rfl (run_store_row 23 (.tmp 14) (.tmp 157) rfl Bo rfl 23 nil8 ws' rfl hB hi.out (by rw [Hl'.out]; rfl) hone.out) ?_)
    exact hex.out (n' := (k : Int)) (ok := true) (.inr ⟨rfl, k, hk, rfl, fun _ => ⟨v, hv, rfl, HJ.out⟩, fun h => absurd rfl h⟩) hT.out
  · rw [hok, hX] at HP
    clear hI V hS hok hX
    by_cases hm : may = true
    · have hb := of_decide_eq_true (Hmay.out.symm.trans hm)
      obtain ⟨k, rfl⟩ := Int.eq_ofNat_of_zero_le hb.1
      have hk : k < 8 := by omega
      have hz' : f k ≠ 0 := by simpa using hz hb.1 hb.2.1 hb.2.2.1 hb.2.2.2
      have hq : (f k == 0) = false := by simpa using hz'
      obtain ⟨z, hzz⟩ : ∃ z, f k = z := ⟨_, rfl⟩
      rw [hzz] at hq
      clear hz hz' hb Hmay
      subst hm
      go_wp2_with (refine op_value rfl (run_load_row 23 (.tmp 2) rfl B0 rfl 23 ws.toArray (0, 0) _ hV Try.underlying23 rfl hVi.out) ?_)
      refine HP.out.mono ?_
      rintro e w3 ⟨ws', rfl, hl', hO, hN⟩
      have hT := Lib.hid (HO.out.store hN hl' hO)
      have hB := (HO.out.newW hN).heap
      have hi := Lib.hid (show (Try.prog.info? 23).map (·.size) = some ws'.length by rw [hl']; exact info23)
      have hone := Lib.hid (hO.one hl')
      have Hl' := Lib.hid hl'
      obtain ⟨ca, fa⟩ := ints8_cell hT.out.st.at' hk
      rw [hzz] at ca
      clear hO hN HP hV hl' hzz
      have hmm : (max (min (k : Int) 7) 0).toNat = k := by omega
      have hm0 : (0 : Int) ≤ max (min (k : Int) 7) 0 := by omega
      have hm8 : max (min (k : Int) 7) 0 < (8 : Int) := by omega
      go_wp2_with (refine op_skip rfl (run_store_row 23 (.tmp 14) (.tmp 157) rfl Bo rfl 23 nil8 ws' rfl hB hi.out (by rw [Hl'.out]; rfl) hone.out) ?_)
      exact hex.out (n' := (k : Int)) (ok := false) (.inl ⟨rfl, rfl⟩) hT.out
    · have hm : may = false := by cases may with
        | true => exact absurd rfl hm
        | false => rfl
      clear Hmay hz
      subst hm
      go_wp2_with (refine op_value rfl (run_load_row 23 (.tmp 2) rfl B0 rfl 23 ws.toArray (0, 0) _ hV Try.underlying23 rfl hVi.out) ?_)
      refine HP.out.mono ?_
      rintro e w3 ⟨ws', rfl, hl', hO, hN⟩
      have hT := Lib.hid (HO.out.store hN hl' hO)
      have hB := (HO.out.newW hN).heap
      have hi := Lib.hid (show (Try.prog.info? 23).map (·.size) = some ws'.length by rw [hl']; exact info23)
      have hone := Lib.hid (hO.one hl')
      have Hl' := Lib.hid hl'
      clear hO hN HP hV hl'
      go_wp2_with (refine op_skip rfl (run_store_row 23 (.tmp 14) (.tmp 157) rfl Bo rfl 23 nil8 ws' rfl hB hi.out (by rw [Hl'.out]; rfl) hone.out) ?_)
      exact hex.out (n' := s) (ok := false) (.inl ⟨rfl, rfl⟩) hT.out
end Go.Proofs.Ytcelhdlppimfbaa
