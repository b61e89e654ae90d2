/- WordRows' deeds, walked: the best. -/
import Derived.Test.YtlkepbmjagjfeaaD2
import Derived.WalkKit
import Derived.Deep.RegionWith
namespace Go.Proofs.Ytlkepbmjagjfeaa
open Go.RowKit Go.Shelf Go.Cs
attribute [local go_sem] Oper.semAt_some
set_option maxRecDepth 100000 in
set_option maxHeartbeats 4000000 in
theorem sw1 {K : Act → World → Prop} {W0 w2 : World} {B y : Nat} {l : List (Nat × Nat)} (hr2 : RowsAt' W0 B y l w2) {s u : Int} (s1 : -9223372036854775808 ≤ s) (s2 : s ≤ 9223372036854775807) (q1 : -9223372036854775808 ≤ u) (q2 : u ≤ 9223372036854775807)
    {f : Bool} {was : Int} (Hf : Hid (f = decide (0 ≤ s ∧ s < 8 ∧ 0 ≤ u ∧ u < 8))) (Hwas : Hid (rowI (rowL l) s = was))
    {c0 c1 c2 c5 c12 c13 c14 c15 c16 c17 c18 c19 c20 c21 c22 c23 c24 c25 c26 c27 c28 c29 c30 c31 c32 c33 c34 c35 c36 c37 c38 c39 c40 c41 c42 c43 c44 c45 c46 c47 c48 c49 c50 c51 c52 c53 c54 c55 c56 c58 c59 c60 c61 c62 c63 c64 c65 c66 c67 c68 c69 c70 c71 c72 c73 c74 c75 c76 c77 c78 c79 c80 c81 c82 c83 c84 c85 c86 c87 c88 c89 c90 c91 c92 c93 c94 c95 c96 c97 c98 c99 c100 c101 c102 c103 c104 c105 c106 c107 c108 c109 c110 c111 c112 c113 c114 c115 c116 c117 c118 c119 c120 c121 c122 c123 c124 c125 c126 c127 c128 c129 c130 c131 c132 c133 c134 c135 c136 c137 c138 c139 c140 c141 c142 c143 c144 c145 c146 c147 c148 c149 c150 c151 c152 c153 c154 c155 c156 c157 c158 c159 c160 c161 c162 c163 c164 c165 c166 c167 c168 c169 c170 c171 c172 c173 c174 c175 c176 c177 c178 c179 c180 c181 c182 c183 c184 c185 c186 c187 c188 c189 c190 c191 c192 c193 c194 c195 c196 c197 c198 c199 c200 c201 : Value}
    (hex : Hid (∀ {z : Nat} {b : Bool} {v12 v13 v14 v15 v58 v59 v60 v61 v62 v63 v64 v65 v66 v67 v68 v69 v70 v71 v72 v73 v74 v75 v76 v77 v78 v79 v80 v81 v82 v83 v84 v85 v86 v87 v88 v89 v90 v91 v92 v93 v94 v95 v96 v97 v98 v99 v100 v101 v102 v103 v104 v105 v106 v107 v108 v109 v110 v111 v112 v113 v114 v115 v116 v117 v118 v119 v120 v121 v122 v123 v124 v125 v126 v127 v128 v129 v130 v131 v132 v133 v134 v135 v136 v137 v138 v139 v140 v141 v142 v143 v144 v145 v146 v147 v148 v149 v150 v151 v152 v153 v154 v155 v156 v157 v158 v159 v160 v161 v162 v163 v164 v165 v166 v167 v168 v169 v170 v171 v172 v173 v174 v175 v176 v177 v178 v179 v180 v181 v182 v183 v184 v185 : Value} {w' : World}, RowsAt W0 B z w' → Only K .normal ⟨#[c0, c1, c2, .int .u64 (z : Nat), .pointer (some ⟨B, 0, none⟩), c5, .int .i64 s, .int .i64 u, .bool f, .int .i64 was, .bool b, .bool b, v12, v13, v14, v15, c16, c17, c18, c19, c20, c21, c22, c23, c24, c25, c26, c27, c28, c29, c30, c31, c32, c33, c34, c35, c36, c37, c38, c39, c40, c41, c42, c43, c44, c45, c46, c47, c48, c49, c50, c51, c52, c53, c54, c55, c56, .int .i64 1, v58, v59, v60, v61, v62, v63, v64, v65, v66, v67, v68, v69, v70, v71, v72, v73, v74, v75, v76, v77, v78, v79, v80, v81, v82, v83, v84, v85, v86, v87, v88, v89, v90, v91, v92, v93, v94, v95, v96, v97, v98, v99, v100, v101, v102, v103, v104, v105, v106, v107, v108, v109, v110, v111, v112, v113, v114, v115, v116, v117, v118, v119, v120, v121, v122, v123, v124, v125, v126, v127, v128, v129, v130, v131, v132, v133, v134, v135, v136, v137, v138, v139, v140, v141, v142, v143, v144, v145, v146, v147, v148, v149, v150, v151, v152, v153, v154, v155, v156, v157, v158, v159, v160, v161, v162, v163, v164, v165, v166, v167, v168, v169, v170, v171, v172, v173, v174, v175, v176, v177, v178, v179, v180, v181, v182, v183, v184, v185, c186, c187, c188, c189, c190, c191, c192, c193, c194, c195, c196, c197, c198, c199, c200, c201], []⟩ w')) :
    sw.wp Try.prog (Only K) ⟨#[c0, c1, c2, .int .u64 (y : Nat), .pointer (some ⟨B, 0, none⟩), c5, .int .i64 s, .int .i64 u, .bool f, .int .i64 was, .bool false, .bool false, c12, c13, c14, c15, c16, c17, c18, c19, c20, c21, c22, c23, c24, c25, c26, c27, c28, c29, c30, c31, c32, c33, c34, c35, c36, c37, c38, c39, c40, c41, c42, c43, c44, c45, c46, c47, c48, c49, c50, c51, c52, c53, c54, c55, c56, .int .i64 1, c58, c59, c60, c61, c62, c63, c64, c65, c66, c67, c68, c69, c70, c71, c72, c73, c74, c75, c76, c77, c78, c79, c80, c81, c82, c83, c84, c85, c86, c87, c88, c89, c90, c91, c92, c93, c94, c95, c96, c97, c98, c99, c100, c101, c102, c103, c104, c105, c106, c107, c108, c109, c110, c111, c112, c113, c114, c115, c116, c117, c118, c119, c120, c121, c122, c123, c124, c125, c126, c127, c128, c129, c130, c131, c132, c133, c134, c135, c136, c137, c138, c139, c140, c141, c142, c143, c144, c145, c146, c147, c148, c149, c150, c151, c152, c153, c154, c155, c156, c157, c158, c159, c160, c161, c162, c163, c164, c165, c166, c167, c168, c169, c170, c171, c172, c173, c174, c175, c176, c177, c178, c179, c180, c181, c182, c183, c184, c185, c186, c187, c188, c189, c190, c191, c192, c193, c194, c195, c196, c197, c198, c199, c200, c201], []⟩ w2 := by
  conv => arg 2; whnf
  have hok := hr2.ok
  have hV := hr2.st
  cases l with
  | nil =>
    have HP := Lib.hid (d_best_no hr2)
    clear Hf Hwas
    go_wp2_with fail
    go_loop [12] (fun c => ∃ j : Nat, j ≤ 7 ∧ c = .int .i64 j) (fun c => 7 - (intOf c).toNat)
    case atStart => exact ⟨0, by omega, rfl⟩
    case round =>
      obtain ⟨j, hj, rfl⟩ := hrel
      obtain ⟨v, hcell, hfr, hrd⟩ := hV.out.at (u := j) (by omega)
      obtain ⟨_, ao, cap, rfl, _⟩ := hrd
      rw [show (rowL [] j).length = 0 from rfl] at hcell
      clear hfr
      by_cases hj7 : j < 7
      · go_wp2_with fail
        go_round
        case rel => exact ⟨j + 1, by omega, by go_num⟩
        case measure => simp [intOf]; omega
      · obtain rfl : j = 7 := by omega
        go_wp2_with fail
        refine (HP.out _).mono ?_
        rintro e w3 ⟨rfl, hN3⟩
        go_wp2_with fail
        exact hex.out (z := y) (b := false) (show RowsAt _ _ _ _ from ⟨[], hr2.new hN3⟩)
  | cons p l =>
    obtain ⟨z, hz, HP⟩ := d_best hr2
    have HP := Lib.hid HP
    obtain ⟨ht, hlow, hhead⟩ := first_row hok
    have Hlow := Lib.hid hlow
    have Hhead := Lib.hid hhead
    clear Hf Hwas hlow hhead
    go_wp2_with fail
    go_loop [12] (fun c => ∃ j : Nat, j ≤ p.2 ∧ c = .int .i64 j) (fun c => p.2 - (intOf c).toNat)
    case atStart => exact ⟨0, by omega, rfl⟩
    case round =>
      obtain ⟨j, hj, rfl⟩ := hrel
      obtain ⟨v, hcell, hfr, hrd⟩ := hV.out.at (u := j) (by omega)
      by_cases hjt : j < p.2
      · obtain ⟨_, ao, cap, rfl, _⟩ := hrd
        rw [Hlow.out j hjt, List.length_nil] at hcell
        clear hfr
        go_wp2_with fail
        go_round
        case rel => exact ⟨j + 1, by omega, by go_num⟩
        case measure => simp [intOf]; omega
      · obtain rfl : j = p.2 := by omega
        obtain ⟨hlen, ao, cap, rfl, hc⟩ := id hrd
        obtain ⟨m, hm⟩ := Hhead.out
        obtain ⟨b0, o0, rfl, hcl⟩ := hc 0 (by rw [hm]; simp)
        rw [hm, Nat.add_zero, show ((p.1 : Int) :: m).getD 0 0 = (p.1 : Int) from rfl] at hcl
        have hpos : 0 < (rowL (p :: l) p.2).length := by rw [hm]; simp
        obtain ⟨n1, hn1⟩ : ∃ n1, (rowL (p :: l) p.2).length = n1 := ⟨_, rfl⟩
        rw [hn1] at hcell hlen hpos hrd
        have Hrd := Lib.hid hrd
        clear hc hm Hhead Hlow hrd hn1
        have e0 : ((n1 : Int) == 0) = false := beq_eq_false_iff_ne.2 (by omega)
        have e1 : decide ((0 : Int) < (n1 : Int)) = true := decide_eq_true (by omega)
        have hpp : ((p.1 : Int) == (p.1 : Int)) = true := beq_self_eq_true _
        have Hn1 : Hid (p.2 < 7 ∨ p.2 = 7) := Lib.hid (by omega)
        rcases Hn1.out with h7 | h7
        · have e7 : decide ((p.2 : Int) < 7) = true := decide_eq_true (by omega)
          clear Hn1 h7
          go_wp2_with fail
          refine (HP.out _).mono ?_
          rintro e w3 ⟨rfl, hN3⟩
          have hV3 := Lib.hid (hV.out.new hN3)
          have hrd3 := Lib.hid (Hrd.out.new hN3)
          have hcell3 := hN3.cell hcell id
          have hcl3 := hN3.cell hcl id
          have hfr3 := (hN3.frozen hcell id).trans hfr
          clear hcell hcl hfr Hrd
          go_wp2_with fail
          refine (put_slice p.1 false (by have := rowL_in_len hok p.2; omega) hrd3.out (cell_lt hcell3)).mono ?_
          rintro e w4 ⟨ao', n', cap', rfl, hrd4, hb4, hN4⟩
          have hc4 := hN4.cell hcell3 id
          have hf4 := (hN4.frozen hcell3 id).trans hfr3
          have HV4 := Lib.hid ((hV3.out.new hN4).put p.2 hrd4 hb4)
          clear hrd4 hb4 hrd3 hcell3 hfr3 hcl3
          go_wp2_with fail
          exact hex.out (z := z) (b := true) (rowsAt_of z hz (delL_ok hok p.1) HV4.out (fun i _ => rows_out hok (by simp) i))
        · have e7 : decide ((p.2 : Int) < 7) = false := decide_eq_false (by omega)
          clear Hn1 h7
          go_wp2_with fail
          refine (HP.out _).mono ?_
          rintro e w3 ⟨rfl, hN3⟩
          have hV3 := Lib.hid (hV.out.new hN3)
          have hrd3 := Lib.hid (Hrd.out.new hN3)
          have hcell3 := hN3.cell hcell id
          have hcl3 := hN3.cell hcl id
          have hfr3 := (hN3.frozen hcell id).trans hfr
          clear hcell hcl hfr Hrd
          go_wp2_with fail
          refine (put_slice p.1 false (by have := rowL_in_len hok p.2; omega) hrd3.out (cell_lt hcell3)).mono ?_
          rintro e w4 ⟨ao', n', cap', rfl, hrd4, hb4, hN4⟩
          have hc4 := hN4.cell hcell3 id
          have hf4 := (hN4.frozen hcell3 id).trans hfr3
          have HV4 := Lib.hid ((hV3.out.new hN4).put p.2 hrd4 hb4)
          clear hrd4 hb4 hrd3 hcell3 hfr3 hcl3
          go_wp2_with fail
          exact hex.out (z := z) (b := true) (rowsAt_of z hz (delL_ok hok p.1) HV4.out (fun i _ => rows_out hok (by simp) i))
end Go.Proofs.Ytlkepbmjagjfeaa
