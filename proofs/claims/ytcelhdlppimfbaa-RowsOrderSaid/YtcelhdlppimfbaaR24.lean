/- RowsOrder's deeds, walked: the best. -/
import Derived.Test.YtcelhdlppimfbaaR22
import Derived.WalkKit
import Derived.Deep.RegionWith
import Derived.Deep.CutRange
import Derived.Deep.CutBlock
import Derived.Deep.DeepCutAuto
namespace Go.Proofs.Ytcelhdlppimfbaa
open Go.RowKit Go.Shelf Go.Cs
attribute [local go_sem] Oper.semAt_some
set_option maxRecDepth 100000 in
set_option maxHeartbeats 8000000 in
theorem ro3 {K : Act → World → Prop} {W0 w2 : World} {B0 Ba Bb Bo c : Nat} {X : Nat → List Int} {f g : Nat → Int} (hS : StO W0 B0 Ba Bb Bo X f g nil8 w2) (hI : Inv X f g c) {s u : Int} {d : Int} (hd0 : ¬ d = 0) (hd1 : ¬ d = 1) (hd2 : ¬ d = 2) (s1 : -9223372036854775808 ≤ s) (s2 : s ≤ 9223372036854775807) (q1 : -9223372036854775808 ≤ u) (q2 : u ≤ 9223372036854775807)
    {may : Bool} (Hmay : Hid (may = decide (0 ≤ s ∧ s < 8 ∧ 0 ≤ u ∧ u < 8))) (hc100 : c ≤ 100)
    {c0 c1 c3 c4 c8 c9 c10 c17 c18 c19 c20 c21 c22 c23 c24 c25 c26 c27 c28 c29 c30 c31 c32 c33 c34 c35 c36 c37 c38 c39 c40 c41 c42 c43 c44 c45 c46 c47 c48 c49 c50 c51 c52 c53 c54 c55 c56 c57 c58 c59 c60 c61 c62 c63 c64 c65 c66 c67 c68 c69 c70 c71 c72 c73 c74 c75 c76 c77 c78 c79 c80 c81 c82 c83 c84 c85 c86 c87 c88 c89 c90 c92 c93 c94 c95 c96 c97 c98 c99 c100 c101 c102 c103 c104 c105 c106 c107 c108 c109 c110 c111 c112 c113 c114 c115 c116 c117 c118 c119 c120 c121 c122 c123 c124 c125 c126 c127 c128 c129 c130 c131 c132 c133 c134 c135 c136 c137 c138 c139 c140 c141 c142 c143 c144 c145 c146 c147 c148 c149 c150 c151 c152 c153 c154 c155 c156 c157 c158 c159 c160 c161 c162 c163 c164 c165 c166 c167 c168 c169 c170 c171 c172 c173 c174 c175 c176 c177 c178 c179 c180 c181 c182 c183 c184 c185 c186 c187 c188 c189 c190 c191 c192 c193 c194 c195 c196 c197 c198 c199 c200 c201 c202 c203 c204 c205 c206 c207 c208 c209 c210 c211 c212 c213 c214 c215 c216 c217 c218 c219 c220 c221 c222 c223 c224 c225 c226 c227 c228 c229 c230 c231 c232 c233 c234 c235 c236 c237 c238 c239 c240 c241 c242 c243 c244 c245 c246 c247 c248 c249 c250 c251 c252 c253 c254 c255 c256 c257 c258 c259 c260 c261 c262 c263 c264 c265 c266 c267 c268 c269 c270 c271 c272 c273 c274 c275 c276 c277 c278 c279 c280 c281 : Value}
    (hex : Hid (∀ {n' : Int} {ok : Bool} {v16 v17 v92 v93 v94 v95 v96 v97 v98 v99 v100 v101 v102 v103 v104 v105 v106 v107 v108 v109 v110 v111 v112 v113 v114 v115 v116 v117 v118 v119 v120 v121 v122 v123 v124 v125 v126 v127 v128 v129 v130 v131 v132 v133 v134 v135 v136 v137 v138 v139 v140 v141 v142 v143 v144 v145 v146 v147 v148 v149 v150 v151 v152 v153 v154 v155 v156 v157 v158 v159 v160 v161 v162 v163 v164 v165 v166 v167 v168 v169 v170 v171 v172 v173 v174 v175 v176 v177 v178 v179 v180 v181 v182 v183 v184 v185 v186 v187 v188 v189 v190 v191 v192 v193 v194 v195 v196 v197 v198 v199 v200 v201 v202 v203 v204 v205 v206 v207 v208 v209 v210 v211 v212 v213 v214 v215 v216 v217 v218 v219 v220 v221 v222 : Value} {X' : Nat → List Int} {w' : World}, Deed d u c X f g n' ok X' → Told W0 B0 Ba Bb Bo X f g X' w' → Only K .normal ⟨#[c0, c1, .pointer (some ⟨B0, 0, none⟩), c3, c4, .pointer (some ⟨Ba, 0, none⟩), .pointer (some ⟨Bb, 0, none⟩), .int .i64 (c : Nat), c8, c9, c10, .int .i64 n', .int .i64 u, .bool may, .pointer (some ⟨Bo, 0, none⟩), .bool ok, v16, v17, c18, c19, c20, c21, c22, c23, c24, c25, c26, c27, c28, c29, c30, c31, c32, c33, c34, c35, c36, c37, c38, c39, c40, c41, c42, c43, c44, c45, c46, c47, c48, c49, c50, c51, c52, c53, c54, c55, c56, c57, c58, c59, c60, c61, c62, c63, c64, c65, c66, c67, c68, c69, c70, c71, c72, c73, c74, c75, c76, c77, c78, c79, c80, c81, c82, c83, c84, c85, c86, c87, c88, c89, c90, .int .i64 d, v92, v93, v94, v95, v96, v97, v98, v99, v100, v101, v102, v103, v104, v105, v106, v107, v108, v109, v110, v111, v112, v113, v114, v115, v116, v117, v118, v119, v120, v121, v122, v123, v124, v125, v126, v127, v128, v129, v130, v131, v132, v133, v134, v135, v136, v137, v138, v139, v140, v141, v142, v143, v144, v145, v146, v147, v148, v149, v150, v151, v152, v153, v154, v155, v156, v157, v158, v159, v160, v161, v162, v163, v164, v165, v166, v167, v168, v169, v170, v171, v172, v173, v174, v175, v176, v177, v178, v179, v180, v181, v182, v183, v184, v185, v186, v187, v188, v189, v190, v191, v192, v193, v194, v195, v196, v197, v198, v199, v200, v201, v202, v203, v204, v205, v206, v207, v208, v209, v210, v211, v212, v213, v214, v215, v216, v217, v218, v219, v220, v221, v222, c223, c224, c225, c226, c227, c228, c229, c230, c231, c232, c233, c234, c235, c236, c237, c238, c239, c240, c241, c242, c243, c244, c245, c246, c247, c248, c249, c250, c251, c252, c253, c254, c255, c256, c257, c258, c259, c260, c261, c262, c263, c264, c265, c266, c267, c268, c269, c270, c271, c272, c273, c274, c275, c276, c277, c278, c279, c280, c281], []⟩ w')) :
    rsw.wp Try.prog (Only K) ⟨#[c0, c1, .pointer (some ⟨B0, 0, none⟩), c3, c4, .pointer (some ⟨Ba, 0, none⟩), .pointer (some ⟨Bb, 0, none⟩), .int .i64 (c : Nat), c8, c9, c10, .int .i64 s, .int .i64 u, .bool may, .pointer (some ⟨Bo, 0, none⟩), .bool false, .int .i64 (-1), c17, c18, c19, c20, c21, c22, c23, c24, c25, c26, c27, c28, c29, c30, c31, c32, c33, c34, c35, c36, c37, c38, c39, c40, c41, c42, c43, c44, c45, c46, c47, c48, c49, c50, c51, c52, c53, c54, c55, c56, c57, c58, c59, c60, c61, c62, c63, c64, c65, c66, c67, c68, c69, c70, c71, c72, c73, c74, c75, c76, c77, c78, c79, c80, c81, c82, c83, c84, c85, c86, c87, c88, c89, c90, .int .i64 d, c92, c93, c94, c95, c96, c97, c98, c99, c100, c101, c102, c103, c104, c105, c106, c107, c108, c109, c110, c111, c112, c113, c114, c115, c116, c117, c118, c119, c120, c121, c122, c123, c124, c125, c126, c127, c128, c129, c130, c131, c132, c133, c134, c135, c136, c137, c138, c139, c140, c141, c142, c143, c144, c145, c146, c147, c148, c149, c150, c151, c152, c153, c154, c155, c156, c157, c158, c159, c160, c161, c162, c163, c164, c165, c166, c167, c168, c169, c170, c171, c172, c173, c174, c175, c176, c177, c178, c179, c180, c181, c182, c183, c184, c185, c186, c187, c188, c189, c190, c191, c192, c193, c194, c195, c196, c197, c198, c199, c200, c201, c202, c203, c204, c205, c206, c207, c208, c209, c210, c211, c212, c213, c214, c215, c216, c217, c218, c219, c220, c221, c222, c223, c224, c225, c226, c227, c228, c229, c230, c231, c232, c233, c234, c235, c236, c237, c238, c239, c240, c241, c242, c243, c244, c245, c246, c247, c248, c249, c250, c251, c252, c253, c254, c255, c256, c257, c258, c259, c260, c261, c262, c263, c264, c265, c266, c267, c268, c269, c270, c271, c272, c273, c274, c275, c276, c277, c278, c279, c280, c281], []⟩ w2 := by
  conv => arg 2; whnf
  obtain ⟨ws, V, _⟩ := hS.st.row
  have hl := V.len
  have HP := Lib.hid (best_any ws hl X w2 V.rd hI.in64 (fun u hu => hI.len u hu))
  have hV := V.heap
  have hVi := Lib.hid V.info
  have HO := Lib.hid hS
  have hfin : ∃ (n : Int) (ok : Bool), (bestR X).2.1 = n ∧ (bestR X).2.2 = ok ∧ -9223372036854775808 ≤ n ∧ n ≤ 9223372036854775807 ∧ ((ok = true ∧ ∃ k : Nat, k < 8 ∧ n = k ∧ bk f g 8 = k ∧ Inv (bestR X).1 (upd f k 0) g c) ∨ (ok = false ∧ bk f g 8 = -1 ∧ (bestR X).1 = X)) := by
    rcases hI.best with ⟨k, hk, hb, h2, h0, hJ⟩ | ⟨hb, h2, hX⟩
    · exact ⟨k, true, by rw [h2], by rw [h2], by omega, by omega, .inl ⟨rfl, k, hk, rfl, hb, hJ⟩⟩
    · exact ⟨0, false, by rw [h2], by rw [h2], by omega, by omega, .inr ⟨rfl, hb, hX⟩⟩
  obtain ⟨n, ok, e1, e2, n1, n2, hfin⟩ := hfin
  have Hfin := Lib.hid hfin
  rw [e1, e2] at HP
  have hle := Lib.hid hI.le
  clear Hmay hS V hI e1 e2 hfin
  go_wp2_with (refine op_value rfl (run_load_row 23 (.tmp 2) rfl B0 rfl 23 ws.toArray (0, 0) _ hV Try.underlying23 rfl hVi.out) ?_)
  refine HP.out.mono ?_
  rintro e w3 ⟨ws', rfl, hl', hO, hN⟩
  have hT := Lib.hid (HO.out.store hN hl' hO)
  have hB := (HO.out.newW hN).heap
  have hi := Lib.hid (show (Try.prog.info? 23).map (·.size) = some ws'.length by rw [hl']; exact info23)
  have hone := Lib.hid (hO.one hl')
  have Hl' := Lib.hid hl'
  clear hO hN HP hV hl'
  go_wp2_with (refine op_skip rfl (run_store_row 23 (.tmp 14) (.tmp 95) rfl Bo rfl 23 nil8 ws' rfl hB hi.out (by rw [Hl'.out]; rfl) hone.out) ?_)
  obtain ⟨W4, hW4⟩ : ∃ W, w3.setRow Bo ws'.toArray = W := ⟨_, rfl⟩
  rw [hW4] at hT ⊢
  clear hW4 hB hi hone Hl'
  go_loopw [16, 17] (fun b c wr => ∃ k : Nat, k ≤ 8 ∧ c = .int .i64 k ∧ b = .int .i64 (bk f g k) ∧ New W4 wr) (fun _ c _ => 8 - (intOf c).toNat)
  case atStart => exact ⟨0, by omega, rfl, rfl, Mods.refl _ _⟩
  case round =>
    obtain ⟨k, hk, rfl, rfl, hN⟩ := hrel
    by_cases hk8 : k < 8
    · have hTk := Lib.hid (hT.out.new hN)
      obtain ⟨ca, fa⟩ := ints8_cell hTk.out.st.at' hk8
      obtain ⟨cb, fb⟩ := ints8_cell hTk.out.st.of' hk8
      obtain ⟨x, hx⟩ : ∃ x, f k = x := ⟨_, rfl⟩
      obtain ⟨y, hy⟩ : ∃ x, g k = x := ⟨_, rfl⟩
      rw [hx] at ca
      rw [hy] at cb
      have hkd : decide ((k : Int) < 8) = true := by simp; omega
      by_cases hx0 : x = 0
      · have hq : (x != 0) = false := by simpa using hx0
        have hbk : Hid (bk f g (k + 1) = bk f g k) := Lib.hid (by rw [bk, if_neg (fun h => h.1 (hx.trans hx0))])
        obtain ⟨b, hb⟩ : ∃ b, bk f g k = b := ⟨_, rfl⟩
        rw [hb] at hbk ⊢
        clear hx hy hx0 hTk fa fb hb cb
        go_wp2_with fail
        go_quiet (fail)
        go_wp2_with fail
        go_roundw
        case rel => exact ⟨k + 1, by omega, by go_num, by rw [hbk.out], hN.drewN _⟩
        case measure => simp [intOf]; omega
      · have hq : (x != 0) = true := by simpa using hx0
        rcases bk_spec f g k with ⟨h1, _⟩ | ⟨b, hb, h1, h2, _⟩
        · have hbk : Hid (bk f g (k + 1) = k) := Lib.hid (by rw [bk, if_pos ⟨by rw [hx]; exact hx0, .inl (by omega)⟩])
          rw [h1]
          clear hx hy hx0 hTk fa fb h1 cb
          go_wp2_with fail
          go_quiet (fail)
          go_wp2_with fail
          go_roundw
          case rel => exact ⟨k + 1, by omega, by go_num, by rw [hbk.out], hN.drewN _⟩
          case measure => simp [intOf]; omega
        · have hb8 : b < 8 := by omega
          obtain ⟨cc, fc⟩ := ints8_cell hTk.out.st.at' hb8
          obtain ⟨cd, fd⟩ := ints8_cell hTk.out.st.of' hb8
          obtain ⟨x', hx'⟩ : ∃ x, f b = x := ⟨_, rfl⟩
          obtain ⟨y', hy'⟩ : ∃ x, g b = x := ⟨_, rfl⟩
          rw [hx'] at cc
          rw [hy'] at cd
          have hbn : decide ((b : Int) < 0) = false := decide_eq_false (by omega)
          have hb0 : (0 : Int) ≤ (b : Int) := by omega
          have hb8' : (b : Int) < 8 := by omega
          have hstep : bk f g (k + 1) = if y < y' ∨ y = y' ∧ x < x' then (k : Int) else b := by
            rw [bk, h1, Int.toNat_natCast, hx, hy, hx', hy']
            by_cases hc : y < y' ∨ y = y' ∧ x < x'
            · rw [if_pos hc, if_pos ⟨hx0, .inr hc⟩]
            · rw [if_neg hc, if_neg (fun h => h.2.elim (fun h => by omega) hc)]
          rw [h1]
          have Hstep := Lib.hid hstep
          clear hx hy hx' hy' hx0 h1 h2 hTk fa fb fc fd hstep
          by_cases l1 : y < y'
          · have b1 : decide (y < y') = true := decide_eq_true l1
            have hs := Lib.hid (Hstep.out.trans (if_pos (.inl l1)))
            clear Hstep l1
            go_wp2_with fail
            go_quiet (fail)
            go_wp2_with fail
            go_roundw
            case rel => exact ⟨k + 1, by omega, by go_num, by rw [hs.out], hN.drewN _⟩
            case measure => simp [intOf]; omega
          · have b1 : decide (y < y') = false := decide_eq_false l1
            by_cases l2 : y = y'
            · have b2 : (y == y') = true := by simpa using l2
              by_cases l3 : x < x'
              · have b3 : decide (x < x') = true := decide_eq_true l3
                have hs := Lib.hid (Hstep.out.trans (if_pos (.inr ⟨l2, l3⟩)))
                clear Hstep l1 l2 l3
                go_wp2_with fail
                go_quiet (fail)
                go_wp2_with fail
                go_roundw
                case rel => exact ⟨k + 1, by omega, by go_num, by rw [hs.out], hN.drewN _⟩
                case measure => simp [intOf]; omega
              · have b3 : decide (x < x') = false := decide_eq_false l3
                have hs := Lib.hid (Hstep.out.trans (if_neg (fun h => h.elim l1 fun h => l3 h.2)))
                clear Hstep l1 l2 l3
                go_wp2_with fail
                go_quiet (fail)
                go_wp2_with fail
                go_roundw
                case rel => exact ⟨k + 1, by omega, by go_num, by rw [hs.out], hN.drewN _⟩
                case measure => simp [intOf]; omega
            · have b2 : (y == y') = false := by simpa using l2
              have hs := Lib.hid (Hstep.out.trans (if_neg (fun h => h.elim l1 fun h => l2 h.1)))
              clear Hstep l1 l2
              go_wp2_with fail
              go_quiet (fail)
              go_wp2_with fail
              go_roundw
              case rel => exact ⟨k + 1, by omega, by go_num, by rw [hs.out], hN.drewN _⟩
              case measure => simp [intOf]; omega
    · obtain rfl : k = 8 := by omega
      have hT8 := Lib.hid (hT.out.new hN)
      rcases Hfin.out with ⟨rfl, k, hk, rfl, hb, hJ⟩ | ⟨rfl, hb, hX⟩
      · rw [hb]
        have HJ := Lib.hid hJ
        have hkk : decide ((0 : Int) ≤ (k : Int)) = true := decide_eq_true (by omega)
        have hne : ((k : Int) != (k : Int)) = false := by simp
        clear Hfin hb hJ hN hT hk8
        go_wp2_with fail
        exact hex.out (n' := (k : Int)) (ok := true) (.inr ⟨rfl, k, hk, rfl, fun h => by omega, fun _ _ => HJ.out⟩) hT8.out
      · rw [hb]
        rw [hX] at hT8
        clear Hfin hb hN hT hk8 hX
        go_wp2_with fail
        exact hex.out (n' := n) (ok := false) (.inl ⟨rfl, rfl⟩) hT8.out
end Go.Proofs.Ytcelhdlppimfbaa
