/- RowsOrder's round, walked. -/
import Derived.Test.YtcelhdlppimfbaaR23
import Derived.Test.YtcelhdlppimfbaaR24
import Derived.Test.YtcelhdlppimfbaaR27
import Derived.RegionTactic
import Derived.ChangeAlike
namespace Go.Proofs.Ytcelhdlppimfbaa
open Go.RowKit Go.Shelf Go.Cs
attribute [local go_sem] Oper.semAt_some
/-- A round. -/
noncomputable def rround : Code := ((Try.f3.body.bind (blockOf 5)).getD .skip)
set_option maxRecDepth 100000 in
set_option maxHeartbeats 8000000 in
theorem round3 {K : Act → World → Prop} {W3 wr : World} {B0 Ba Bb c b o n cap k : Nat} {Y : Nat → List Int} {f g : Nat → Int} (hIn0 : Inv Y f g c) (hSt0 : St W3 B0 Ba Bb Y f g wr) {d s u : Int} (h0 : wr.cell? ⟨b, o + k * 3, none⟩ = some (.int .i64 d)) (h1 : wr.cell? ⟨b, o + k * 3 + 1, none⟩ = some (.int .i64 s)) (h2 : wr.cell? ⟨b, o + k * 3 + 2, none⟩ = some (.int .i64 u))
    (hdw0 : W3.cell? ⟨b, o + k * 3, none⟩ = some (.int .i64 d)) (n0 : ¬ (b = B0)) (m1 : ¬ (b = Ba)) (m2 : ¬ (b = Bb)) (hlt : k < n) (hn60 : n ≤ 60) (hck : c ≤ 8 + k)
    (s1 : -9223372036854775808 ≤ s) (s2 : s ≤ 9223372036854775807) (q1 : -9223372036854775808 ≤ u) (q2 : u ≤ 9223372036854775807)
    {c0 c3 c4 c8 c9 c11 c12 c13 c14 c15 c16 c17 c18 c19 c20 c21 c22 c23 c24 c25 c26 c27 c28 c29 c30 c31 c32 c33 c34 c35 c36 c37 c38 c39 c40 c41 c42 c43 c44 c45 c46 c47 c48 c49 c50 c51 c52 c53 c54 c55 c56 c57 c58 c59 c60 c61 c62 c63 c64 c65 c66 c67 c68 c69 c70 c71 c72 c73 c74 c75 c76 c77 c78 c79 c80 c81 c82 c83 c84 c85 c86 c87 c88 c89 c90 c91 c92 c93 c94 c95 c96 c97 c98 c99 c100 c101 c102 c103 c104 c105 c106 c107 c108 c109 c110 c111 c112 c113 c114 c115 c116 c117 c118 c119 c120 c121 c122 c123 c124 c125 c126 c127 c128 c129 c130 c131 c132 c133 c134 c135 c136 c137 c138 c139 c140 c141 c142 c143 c144 c145 c146 c147 c148 c149 c150 c151 c152 c153 c154 c155 c156 c157 c158 c159 c160 c161 c162 c163 c164 c165 c166 c167 c168 c169 c170 c171 c172 c173 c174 c175 c176 c177 c178 c179 c180 c181 c182 c183 c184 c185 c186 c187 c188 c189 c190 c191 c192 c193 c194 c195 c196 c197 c198 c199 c200 c201 c202 c203 c204 c205 c206 c207 c208 c209 c210 c211 c212 c213 c214 c215 c216 c217 c218 c219 c220 c221 c222 c223 c224 c225 c226 c227 c228 c229 c230 c231 c232 c233 c234 c235 c236 c237 c238 c239 c240 c241 c242 c243 c244 c245 c246 c247 c248 c249 c250 c251 c252 c253 c254 c255 c256 c257 c258 c259 c260 c261 c262 c263 c264 c265 c266 c267 c268 c269 c270 c271 c272 c273 c274 c275 c276 c277 c278 c279 c280 c281 : Value}
    (hex : Hid (∀ {z : Nat} {v4 v11 v12 v13 v14 v15 v16 v17 v63 v64 v65 v66 v67 v68 v69 v70 v71 v72 v73 v74 v75 v76 v77 v78 v79 v80 v81 v82 v83 v84 v85 v86 v87 v88 v89 v90 v91 v92 v93 v94 v95 v96 v97 v98 v99 v100 v101 v102 v103 v104 v105 v106 v107 v108 v109 v110 v111 v112 v113 v114 v115 v116 v117 v118 v119 v120 v121 v122 v123 v124 v125 v126 v127 v128 v129 v130 v131 v132 v133 v134 v135 v136 v137 v138 v139 v140 v141 v142 v143 v144 v145 v146 v147 v148 v149 v150 v151 v152 v153 v154 v155 v156 v157 v158 v159 v160 v161 v162 v163 v164 v165 v166 v167 v168 v169 v170 v171 v172 v173 v174 v175 v176 v177 v178 v179 v180 v181 v182 v183 v184 v185 v186 v187 v188 v189 v190 v191 v192 v193 v194 v195 v196 v197 v198 v199 v200 v201 v202 v203 v204 v205 v206 v207 v208 v209 v210 v211 v212 v213 v214 v215 v216 v217 v218 v219 v220 v221 v222 v223 v224 v225 v226 v227 v228 v229 v230 v231 v232 v233 v234 v235 v236 v237 v238 v239 v240 v241 v242 v243 v244 v245 v246 v247 v248 v249 v250 v251 v252 v253 v254 v255 v256 v257 v258 v259 v260 v261 v262 v263 v264 v265 v266 v267 v268 v269 v270 v271 v272 v273 v274 v275 v276 v277 v278 v279 v280 : Value} {Y' : Nat → List Int} {f' g' : Nat → Int} {w' : World}, z ≤ c + 1 → Inv Y' f' g' z → St W3 B0 Ba Bb Y' f' g' w' → Only K .normal ⟨#[c0, .slice (some ⟨b, o, none⟩) n cap, .pointer (some ⟨B0, 0, none⟩), c3, v4, .pointer (some ⟨Ba, 0, none⟩), .pointer (some ⟨Bb, 0, none⟩), .int .i64 (z : Nat), c8, c9, .int .i64 (k : Nat), v11, v12, v13, v14, v15, v16, v17, c18, c19, c20, c21, c22, c23, c24, c25, c26, c27, c28, c29, c30, c31, c32, c33, c34, c35, c36, c37, c38, c39, c40, c41, c42, c43, c44, c45, c46, c47, c48, c49, c50, c51, c52, c53, c54, c55, c56, c57, c58, c59, c60, c61, c62, v63, v64, v65, v66, v67, v68, v69, v70, v71, v72, v73, v74, v75, v76, v77, v78, v79, v80, v81, v82, v83, v84, v85, v86, v87, v88, v89, v90, v91, v92, v93, v94, v95, v96, v97, v98, v99, v100, v101, v102, v103, v104, v105, v106, v107, v108, v109, v110, v111, v112, v113, v114, v115, v116, v117, v118, v119, v120, v121, v122, v123, v124, v125, v126, v127, v128, v129, v130, v131, v132, v133, v134, v135, v136, v137, v138, v139, v140, v141, v142, v143, v144, v145, v146, v147, v148, v149, v150, v151, v152, v153, v154, v155, v156, v157, v158, v159, v160, v161, v162, v163, v164, v165, v166, v167, v168, v169, v170, v171, v172, v173, v174, v175, v176, v177, v178, v179, v180, v181, v182, v183, v184, v185, v186, v187, v188, v189, v190, v191, v192, v193, v194, v195, v196, v197, v198, v199, v200, v201, v202, v203, v204, v205, v206, v207, v208, v209, v210, v211, v212, v213, v214, v215, v216, v217, v218, v219, v220, v221, v222, v223, v224, v225, v226, v227, v228, v229, v230, v231, v232, v233, v234, v235, v236, v237, v238, v239, v240, v241, v242, v243, v244, v245, v246, v247, v248, v249, v250, v251, v252, v253, v254, v255, v256, v257, v258, v259, v260, v261, v262, v263, v264, v265, v266, v267, v268, v269, v270, v271, v272, v273, v274, v275, v276, v277, v278, v279, v280, c281], []⟩ w')) :
    rround.wp Try.prog (Only K) ⟨#[c0, .slice (some ⟨b, o, none⟩) n cap, .pointer (some ⟨B0, 0, none⟩), c3, c4, .pointer (some ⟨Ba, 0, none⟩), .pointer (some ⟨Bb, 0, none⟩), .int .i64 (c : Nat), c8, c9, .int .i64 (k : Nat), c11, c12, c13, c14, c15, c16, c17, c18, c19, c20, c21, c22, c23, c24, c25, c26, c27, c28, c29, c30, c31, c32, c33, c34, c35, c36, c37, c38, c39, c40, c41, c42, c43, c44, c45, c46, c47, c48, c49, c50, c51, c52, c53, c54, c55, c56, c57, c58, c59, c60, c61, c62, c63, c64, c65, c66, c67, c68, c69, c70, c71, c72, c73, c74, c75, c76, c77, c78, c79, c80, c81, c82, c83, c84, c85, c86, c87, c88, c89, c90, c91, c92, c93, c94, c95, c96, c97, c98, c99, c100, c101, c102, c103, c104, c105, c106, c107, c108, c109, c110, c111, c112, c113, c114, c115, c116, c117, c118, c119, c120, c121, c122, c123, c124, c125, c126, c127, c128, c129, c130, c131, c132, c133, c134, c135, c136, c137, c138, c139, c140, c141, c142, c143, c144, c145, c146, c147, c148, c149, c150, c151, c152, c153, c154, c155, c156, c157, c158, c159, c160, c161, c162, c163, c164, c165, c166, c167, c168, c169, c170, c171, c172, c173, c174, c175, c176, c177, c178, c179, c180, c181, c182, c183, c184, c185, c186, c187, c188, c189, c190, c191, c192, c193, c194, c195, c196, c197, c198, c199, c200, c201, c202, c203, c204, c205, c206, c207, c208, c209, c210, c211, c212, c213, c214, c215, c216, c217, c218, c219, c220, c221, c222, c223, c224, c225, c226, c227, c228, c229, c230, c231, c232, c233, c234, c235, c236, c237, c238, c239, c240, c241, c242, c243, c244, c245, c246, c247, c248, c249, c250, c251, c252, c253, c254, c255, c256, c257, c258, c259, c260, c261, c262, c263, c264, c265, c266, c267, c268, c269, c270, c271, c272, c273, c274, c275, c276, c277, c278, c279, c280, c281], []⟩ wr := by
  conv => arg 2; whnf
  have hIn := Lib.hid hIn0
  have hSt := Lib.hid hSt0
  have hdw := Lib.hid hdw0
  have hkd : (k : Int) < (n : Int) := by omega
  have hk0 : (0 : Int) ≤ (k : Int) := by omega
  clear hIn0 hSt0 hdw0
  go_wp2_with fail
  go_quiet (fail)
  obtain ⟨W4, hW4⟩ : ∃ W, wr.drewN nq = W := ⟨_, rfl⟩
  have hN1 : New wr W4 := by rw [← hW4]; exact (Mods.refl _ _).drewN _
  rw [hW4]
  have h0 := hN1.cell h0 id
  have hSt4 := Lib.hid (hSt.out.new hN1)
  clear hW4 h1 h2 hSt hN1
  obtain ⟨f', hf⟩ : ∃ f' : Bool, f' = decide (0 ≤ s ∧ s < 8 ∧ 0 ≤ u ∧ u < 8) := ⟨_, rfl⟩
  go_upto_region 17 with fail
  go_cut [13] from 73 to 86 (fun c wx => c = .bool f' ∧ wx = W4)
  case first =>
    have g1 : f' = (decide (0 ≤ s) && (decide (s < 8) && (decide (0 ≤ u) && decide (u < 8)))) := by rw [hf]; simp [Bool.decide_and]
    clear hf
    by_cases c1 : 0 ≤ s
    · have b1 : decide (0 ≤ s) = true := decide_eq_true c1
      by_cases c2 : s < 8
      · have b2 : decide (s < 8) = true := decide_eq_true c2
        by_cases c3 : 0 ≤ u
        · have b3 : decide (0 ≤ u) = true := decide_eq_true c3
          go_wp2_with fail
          go_meet
          exact ⟨by rw [g1, b1, b2, b3]; rfl, rfl⟩
        · have b3 : decide (0 ≤ u) = false := decide_eq_false c3
          go_wp2_with fail
          go_meet
          exact ⟨by rw [g1, b1, b2, b3]; rfl, rfl⟩
      · have b2 : decide (s < 8) = false := decide_eq_false c2
        go_wp2_with fail
        go_meet
        exact ⟨by rw [g1, b1, b2]; rfl, rfl⟩
    · have b1 : decide (0 ≤ s) = false := decide_eq_false c1
      go_wp2_with fail
      go_meet
      exact ⟨by rw [g1, b1]; rfl, rfl⟩
  case rest =>
    obtain ⟨rfl, rfl⟩ := hcut
    have Hf := Lib.hid hf
    have hA : New wc (wc.alloc (.cells #[.slice none 0 0, .slice none 0 0, .slice none 0 0, .slice none 0 0, .slice none 0 0, .slice none 0 0, .slice none 0 0, .slice none 0 0] 23)) := (Mods.refl _ _).alloc _
    have h05 := hA.cell h0 id
    have hO5 : StO W3 B0 Ba Bb wc.heap.size Y f g nil8 (wc.alloc (.cells nil8.toArray 23)) := StO.make hSt4.out nil8
    clear hf hA
    go_upto_block 6 with fail
    obtain ⟨Bo, hBo⟩ : ∃ B, wc.heap.size = B := ⟨_, rfl⟩
    obtain ⟨W5, hW5⟩ : ∃ W, wc.alloc (.cells nil8.toArray 23) = W := ⟨_, rfl⟩
    rw [show wc.alloc (.cells #[.slice none 0 0, .slice none 0 0, .slice none 0 0, .slice none 0 0, .slice none 0 0, .slice none 0 0, .slice none 0 0, .slice none 0 0] 23) = W5 from hW5] at h05 ⊢
    rw [hW5] at hO5
    rw [hBo] at hO5 ⊢
    have HO5 := Lib.hid hO5
    clear hW5 hBo hO5 h0
    go_cut [11, 15, 16, 17] from 92 to 222 (fun nn okk _ _ wx => ∃ (n1 : Int) (b1 : Bool) (X' : Nat → List Int), nn = .int .i64 n1 ∧ okk = .bool b1 ∧ Deed d u c Y f g n1 b1 X' ∧ Told W3 B0 Ba Bb Bo Y f g X' wx)
    case first =>
      rename_i J K' hJ hK
      clear hdw hSt4 h05
      refine Code.wp_mono (Only.imp fun a w h => h) ?_
      by_cases hd0 : d = 0
      · subst hd0
        refine ro0 HO5.out hIn.out s1 s2 q1 q2 Hf (by omega) ?_
        refine Lib.hid ?_
        intro hDd hTd
        dsimp only [Only, Exit.then]
        refine hK _ _ (hJ _ _ ?_)
        repeat apply Exists.intro
        exact ⟨⟨_, _, _, rfl, rfl, hDd, hTd⟩, rfl⟩
      · by_cases hd1 : d = 1
        · subst hd1
          refine ro1 HO5.out hIn.out s1 s2 q1 q2 Hf (by omega) ?_
          refine Lib.hid ?_
          intro hDd hTd
          dsimp only [Only, Exit.then]
          refine hK _ _ (hJ _ _ ?_)
          repeat apply Exists.intro
          exact ⟨⟨_, _, _, rfl, rfl, hDd, hTd⟩, rfl⟩
        · by_cases hd2 : d = 2
          · subst hd2
            refine ro2 HO5.out hIn.out s1 s2 q1 q2 Hf (by omega) ?_
            refine Lib.hid ?_
            intro hDd hTd
            dsimp only [Only, Exit.then]
            refine hK _ _ (hJ _ _ ?_)
            repeat apply Exists.intro
            exact ⟨⟨_, _, _, rfl, rfl, hDd, hTd⟩, rfl⟩
          · refine ro3 HO5.out hIn.out hd0 hd1 hd2 s1 s2 q1 q2 Hf (by omega) ?_
            refine Lib.hid ?_
            intro hDd hTd
            dsimp only [Only, Exit.then]
            refine hK _ _ (hJ _ _ ?_)
            repeat apply Exists.intro
            exact ⟨⟨_, _, _, rfl, rfl, hDd, hTd⟩, rfl⟩
    case rest =>
      obtain ⟨n1, b1, X', rfl, rfl, hDd, hTd⟩ := hcut
      have hdc : wc.cell? ⟨b, o + k * 3, none⟩ = some (.int .i64 d) := hTd.st.mods.cell (S := fun b => b = B0 ∨ b = Ba ∨ b = Bb) hdw.out (fun e => by dsimp only at e; omega)
      have hI := hIn.out
      clear h05 hSt4 HO5 Hf  hdw
      go_step
      refine Code.wp_mono (Only.imp fun a w h => h) ?_
      rcases hDd with ⟨rfl, hX⟩ | ⟨rfl, j, hj, hs, h01, h2⟩
      · have hr1 : rightR X' = true := by rw [hX]; exact hI.right
        have hI' : Inv X' f g c := by rw [hX]; exact hI
        clear hI
        refine rr0 hTd hdc m1 m2 hlt (by omega) (by omega) hX hr1 hI' ?_
        refine Lib.hid ?_
        intro hz hI2 hS2
        have hI2 := Lib.hid hI2
        have hS2 := Lib.hid hS2
        clear hTd hdc hIn
        dsimp only [Only]
        go_wp2_with fail
        exact hex.out hz hI2.out hS2.out
      · clear hI
        by_cases hd0 : d = 0
        · subst hd0
          obtain ⟨v, hv, hu, hI⟩ := h01 (.inl rfl)
          clear h01 h2
          refine rr1 hTd hdc m1 m2 hlt (by omega) (by omega) hj hs hu hI ?_
          refine Lib.hid ?_
          intro hz hI2 hS2
          have hI2 := Lib.hid hI2
          have hS2 := Lib.hid hS2
          clear hTd hdc hIn
          dsimp only [Only]
          go_wp2_with fail
          exact hex.out hz hI2.out hS2.out
        · by_cases hd1 : d = 1
          · subst hd1
            obtain ⟨v, hv, hu, hI⟩ := h01 (.inr rfl)
            clear h01 h2
            refine rr2 hTd hdc m1 m2 hlt (by omega) (by omega) hj hs hu hI ?_
            refine Lib.hid ?_
            intro hz hI2 hS2
            have hI2 := Lib.hid hI2
            have hS2 := Lib.hid hS2
            clear hTd hdc hIn
            dsimp only [Only]
            go_wp2_with fail
            exact hex.out hz hI2.out hS2.out
          · have hI := h2 hd0 hd1
            clear h01 h2
            refine rr3 hTd hd0 hd1 hdc m1 m2 hlt (by omega) (by omega) hj hs hI ?_
            refine Lib.hid ?_
            intro hz hI2 hS2
            have hI2 := Lib.hid hI2
            have hS2 := Lib.hid hS2
            clear hTd hdc hIn
            dsimp only [Only]
            go_wp2_with fail
            exact hex.out hz hI2.out hS2.out
end Go.Proofs.Ytcelhdlppimfbaa
