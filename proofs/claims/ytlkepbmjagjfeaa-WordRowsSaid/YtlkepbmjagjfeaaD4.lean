/- WordRows' deeds, walked: turned. -/
import Derived.Test.YtlkepbmjagjfeaaD2
import Derived.WalkKit
import Derived.Deep.RegionWith
namespace Go.Proofs.Ytlkepbmjagjfeaa
open Go.RowKit Go.Shelf Go.Cs
attribute [local go_sem] Oper.semAt_some
set_option maxRecDepth 100000 in
set_option maxHeartbeats 4000000 in
theorem sw2 {K : Act → World → Prop} {W0 w2 : World} {B y : Nat} {l : List (Nat × Nat)} (hr2 : RowsAt' W0 B y l w2) {s u : Int} (s1 : -9223372036854775808 ≤ s) (s2 : s ≤ 9223372036854775807) (q1 : -9223372036854775808 ≤ u) (q2 : u ≤ 9223372036854775807)
    {f : Bool} {was : Int} (Hf : Hid (f = decide (0 ≤ s ∧ s < 8 ∧ 0 ≤ u ∧ u < 8))) (Hwas : Hid (rowI (rowL l) s = was))
    {c0 c1 c2 c5 c12 c13 c14 c15 c16 c17 c18 c19 c20 c21 c22 c23 c24 c25 c26 c27 c28 c29 c30 c31 c32 c33 c34 c35 c36 c37 c38 c39 c40 c41 c42 c43 c44 c45 c46 c47 c48 c49 c50 c51 c52 c53 c54 c55 c56 c58 c59 c60 c61 c62 c63 c64 c65 c66 c67 c68 c69 c70 c71 c72 c73 c74 c75 c76 c77 c78 c79 c80 c81 c82 c83 c84 c85 c86 c87 c88 c89 c90 c91 c92 c93 c94 c95 c96 c97 c98 c99 c100 c101 c102 c103 c104 c105 c106 c107 c108 c109 c110 c111 c112 c113 c114 c115 c116 c117 c118 c119 c120 c121 c122 c123 c124 c125 c126 c127 c128 c129 c130 c131 c132 c133 c134 c135 c136 c137 c138 c139 c140 c141 c142 c143 c144 c145 c146 c147 c148 c149 c150 c151 c152 c153 c154 c155 c156 c157 c158 c159 c160 c161 c162 c163 c164 c165 c166 c167 c168 c169 c170 c171 c172 c173 c174 c175 c176 c177 c178 c179 c180 c181 c182 c183 c184 c185 c186 c187 c188 c189 c190 c191 c192 c193 c194 c195 c196 c197 c198 c199 c200 c201 : Value}
    (hex : Hid (∀ {z : Nat} {b : Bool} {v12 v13 v14 v15 v58 v59 v60 v61 v62 v63 v64 v65 v66 v67 v68 v69 v70 v71 v72 v73 v74 v75 v76 v77 v78 v79 v80 v81 v82 v83 v84 v85 v86 v87 v88 v89 v90 v91 v92 v93 v94 v95 v96 v97 v98 v99 v100 v101 v102 v103 v104 v105 v106 v107 v108 v109 v110 v111 v112 v113 v114 v115 v116 v117 v118 v119 v120 v121 v122 v123 v124 v125 v126 v127 v128 v129 v130 v131 v132 v133 v134 v135 v136 v137 v138 v139 v140 v141 v142 v143 v144 v145 v146 v147 v148 v149 v150 v151 v152 v153 v154 v155 v156 v157 v158 v159 v160 v161 v162 v163 v164 v165 v166 v167 v168 v169 v170 v171 v172 v173 v174 v175 v176 v177 v178 v179 v180 v181 v182 v183 v184 v185 : Value} {w' : World}, RowsAt W0 B z w' → Only K .normal ⟨#[c0, c1, c2, .int .u64 (z : Nat), .pointer (some ⟨B, 0, none⟩), c5, .int .i64 s, .int .i64 u, .bool f, .int .i64 was, .bool b, .bool b, v12, v13, v14, v15, c16, c17, c18, c19, c20, c21, c22, c23, c24, c25, c26, c27, c28, c29, c30, c31, c32, c33, c34, c35, c36, c37, c38, c39, c40, c41, c42, c43, c44, c45, c46, c47, c48, c49, c50, c51, c52, c53, c54, c55, c56, .int .i64 2, v58, v59, v60, v61, v62, v63, v64, v65, v66, v67, v68, v69, v70, v71, v72, v73, v74, v75, v76, v77, v78, v79, v80, v81, v82, v83, v84, v85, v86, v87, v88, v89, v90, v91, v92, v93, v94, v95, v96, v97, v98, v99, v100, v101, v102, v103, v104, v105, v106, v107, v108, v109, v110, v111, v112, v113, v114, v115, v116, v117, v118, v119, v120, v121, v122, v123, v124, v125, v126, v127, v128, v129, v130, v131, v132, v133, v134, v135, v136, v137, v138, v139, v140, v141, v142, v143, v144, v145, v146, v147, v148, v149, v150, v151, v152, v153, v154, v155, v156, v157, v158, v159, v160, v161, v162, v163, v164, v165, v166, v167, v168, v169, v170, v171, v172, v173, v174, v175, v176, v177, v178, v179, v180, v181, v182, v183, v184, v185, c186, c187, c188, c189, c190, c191, c192, c193, c194, c195, c196, c197, c198, c199, c200, c201], []⟩ w')) :
    sw.wp Try.prog (Only K) ⟨#[c0, c1, c2, .int .u64 (y : Nat), .pointer (some ⟨B, 0, none⟩), c5, .int .i64 s, .int .i64 u, .bool f, .int .i64 was, .bool false, .bool false, c12, c13, c14, c15, c16, c17, c18, c19, c20, c21, c22, c23, c24, c25, c26, c27, c28, c29, c30, c31, c32, c33, c34, c35, c36, c37, c38, c39, c40, c41, c42, c43, c44, c45, c46, c47, c48, c49, c50, c51, c52, c53, c54, c55, c56, .int .i64 2, c58, c59, c60, c61, c62, c63, c64, c65, c66, c67, c68, c69, c70, c71, c72, c73, c74, c75, c76, c77, c78, c79, c80, c81, c82, c83, c84, c85, c86, c87, c88, c89, c90, c91, c92, c93, c94, c95, c96, c97, c98, c99, c100, c101, c102, c103, c104, c105, c106, c107, c108, c109, c110, c111, c112, c113, c114, c115, c116, c117, c118, c119, c120, c121, c122, c123, c124, c125, c126, c127, c128, c129, c130, c131, c132, c133, c134, c135, c136, c137, c138, c139, c140, c141, c142, c143, c144, c145, c146, c147, c148, c149, c150, c151, c152, c153, c154, c155, c156, c157, c158, c159, c160, c161, c162, c163, c164, c165, c166, c167, c168, c169, c170, c171, c172, c173, c174, c175, c176, c177, c178, c179, c180, c181, c182, c183, c184, c185, c186, c187, c188, c189, c190, c191, c192, c193, c194, c195, c196, c197, c198, c199, c200, c201], []⟩ w2 := by
  conv => arg 2; whnf
  have hok := hr2.ok
  have hV := hr2.st
  by_cases hc : (0 ≤ u ∧ u < 8) ∧ ∃ p, p ∈ l ∧ (p.1 : Int) = s ∧ (p.2 : Int) ≠ u
  · obtain ⟨⟨u0, u8⟩, p, hp, rfl, hne⟩ := hc
    obtain ⟨u', rfl⟩ := Int.eq_ofNat_of_zero_le u0
    have hp8 := hok.inn p hp
    have hwas : was = (p.2 : Int) := Hwas.out.symm.trans (rowI_some hok hp)
    have hft : f = true := by rw [Hf.out]; exact decide_eq_true ⟨by omega, by omega, u0, u8⟩
    have hu8 : u' < 8 := by omega
    have hne' : p.2 ≠ u' := by omega
    obtain ⟨z, hz, HP⟩ := d_turn hr2 hp hu8 hne'
    have HP := Lib.hid HP
    have hge : decide ((0 : Int) ≤ (p.2 : Int)) = true := decide_eq_true (by omega)
    have hneq : ((p.2 : Int) != (u' : Int)) = true := bne_iff_ne.2 hne
    clear Hf Hwas hne
    subst hwas
    subst hft
    go_wp2_with fail
    refine (HP.out _).mono ?_
    rintro e w3 ⟨rfl, hN3⟩
    have hV3 := Lib.hid (hV.out.new hN3)
    obtain ⟨v1, hc1, hf1, hrd1⟩ := hV3.out.at hp8.2
    obtain ⟨v2, hc2, hf2, hrd2⟩ := hV3.out.at hu8
    have Hrd1 := Lib.hid hrd1
    have Hrd2 := Lib.hid hrd2
    clear hrd1 hrd2
    go_wp2_with fail
    have hL1 : (rowL l p.2).length ≤ 100 := by have := rowL_in_len hok p.2; omega
    have hL2 : (rowL l u').length ≤ 100 := by have := rowL_in_len hok u'; omega
    have hsz := cell_lt hc1
    have HL1 := Lib.hid hL1
    have HL2 := Lib.hid hL2
    clear hL1 hL2
    go_region_with (go_at_call 9; first | ((with_reducible refine (put_slice (v := v1) p.1 false HL1.out (Hrd1.out.new (by first | exact (Mods.refl _ _).drew | exact (Mods.refl _ _).drew.trans hNb)) (B := B) (by first | exact Nat.lt_of_lt_of_le hsz (Mods.drew (Mods.refl (fun _ => False) w3)).size | exact Nat.lt_of_lt_of_le hsz ((Mods.drew (Mods.refl (fun _ => False) w3)).trans hNb).size)).mono ?_); rintro e wa ⟨ao1, n1, cap1, rfl, ra, rb, hNa⟩; have hf1 := (hNa.frozen hc1 id).trans hf1; have hf2 := (hNa.frozen hc2 id).trans hf2; have hc1 := hNa.cell hc1 id; have hc2 := hNa.cell hc2 id) | ((with_reducible refine (put_slice (v := v2) p.1 true HL2.out (Hrd2.out.new (by first | exact (Mods.refl _ _).drew | exact (Mods.refl _ _).drew.trans hNa)) (B := B) (by first | exact Nat.lt_of_lt_of_le hsz (Mods.drew (Mods.refl (fun _ => False) w3)).size | exact Nat.lt_of_lt_of_le hsz ((Mods.drew (Mods.refl (fun _ => False) w3)).trans hNa).size)).mono ?_); rintro e wb ⟨ao2, n2, cap2, rfl, rc, rd, hNb⟩; have hf1 := (hNb.frozen hc1 id).trans hf1; have hf2 := (hNb.frozen hc2 id).trans hf2; have hc1 := hNb.cell hc1 id; have hc2 := hNb.cell hc2 id))
    all_goals
      have HV4 := Lib.hid ((((hV3.out.new (Mods.refl _ _).drew).new hNa).new hNb).put2 p.2 u' (ra.new hNb) rb rc rd)
      clear ra rb rc rd hf1 hf2 hc1 hc2 hNa hNb
      go_wp2_with fail
      exact hex.out (z := z) (b := true) (rowsAt_of z hz (insL_ok (delL_ok hok p.1) hp8.1 hu8 (fun q hq => (delL_mem.1 hq).2)) HV4.out (fun i _ => rows_turn hok hp hne' i))
  · have HP := Lib.hid (d_turn_no hr2 s1 s2 q1 q2 (by
      rcases rowI_cases hok s with ⟨p, hp, e, h⟩ | ⟨hno, h⟩
      · exact .inr ⟨p, hp, e, by
          by_cases e1 : (p.2 : Int) = u
          · exact .inl e1
          · exact .inr (by
              by_cases e2 : u < 0
              · exact .inl e2
              · exact .inr (by
                  by_cases e3 : 8 ≤ u
                  · exact e3
                  · exact absurd ⟨⟨by omega, by omega⟩, p, hp, e, e1⟩ hc))⟩
      · exact .inl hno))
    have hq : f = false ∨ (f = true ∧ was = -1) ∨ (f = true ∧ decide (0 ≤ was) = true ∧ (was != u) = false) := by
      cases f with
      | false => exact .inl rfl
      | true =>
        have hf := of_decide_eq_true Hf.out.symm
        rcases rowI_cases hok s with ⟨p, hp, e, h⟩ | ⟨hno, h⟩
        · refine .inr (.inr ⟨rfl, ?_⟩)
          rw [← Hwas.out, h]
          refine ⟨decide_eq_true (by omega), ?_⟩
          by_cases e1 : (p.2 : Int) = u
          · rw [e1]; simp
          · exact absurd ⟨⟨hf.2.2.1, hf.2.2.2⟩, p, hp, e, e1⟩ hc
        · exact .inr (.inl ⟨rfl, Hwas.out.symm.trans h⟩)
    clear hc Hf Hwas
    rcases hq with rfl | ⟨rfl, rfl⟩ | ⟨rfl, hq1, hq2⟩
    all_goals
      go_wp2_with fail
      refine (HP.out _).mono ?_
      rintro e w3 ⟨rfl, hN3⟩
      go_wp2_with fail
      exact hex.out (z := y) (b := false) (show RowsAt _ _ _ _ from ⟨l, hr2.new hN3⟩)
end Go.Proofs.Ytlkepbmjagjfeaa
