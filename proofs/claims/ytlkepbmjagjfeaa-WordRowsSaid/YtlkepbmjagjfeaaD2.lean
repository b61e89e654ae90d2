/- WordRows' deeds, walked: pushed, out. -/
import Derived.Test.YtlkepbmjagjfeaaD1
import Derived.WalkKit
import Derived.Deep.RegionWith
namespace Go.Proofs.Ytlkepbmjagjfeaa
open Go.RowKit Go.Shelf Go.Cs
attribute [local go_sem] Oper.semAt_some
/-- The block of that number. -/
def blockOf (id : Nat) : Code → Option Code
  | .block i c => if i = id then some (.block i c) else blockOf id c
  | .seq a b => match blockOf id a with
    | some c => some c
    | none => blockOf id b
  | .loop c => blockOf id c
  | .scope c => blockOf id c
  | .cond _ a b => match blockOf id a with
    | some c => some c
    | none => blockOf id b
  | _ => none
/-- It ends as usual, and so. -/
def Only (K : Act → World → Prop) : Exit → Act → World → Prop
  | .normal, a, w => K a w
  | _, _, _ => False
theorem Only.imp {K : Act → World → Prop} {Q : Exit → Act → World → Prop} (h : ∀ a w, K a w → Q .normal a w) : ∀ (e : Exit) (a : Act) (w : World), Only K e a w → Q e a w := fun e a w hk => by
  cases e <;> first | exact h a w hk | exact (hk : False).elim
/-- What is done, by the deed's number. -/
noncomputable def sw : Code := ((Try.f3.body.bind (blockOf 2)).getD .skip)
set_option maxRecDepth 100000 in
set_option maxHeartbeats 4000000 in
theorem sw0 {K : Act → World → Prop} {W0 w2 : World} {B y : Nat} {l : List (Nat × Nat)} (hr2 : RowsAt' W0 B y l w2) {s u : Int} (s1 : -9223372036854775808 ≤ s) (s2 : s ≤ 9223372036854775807) (q1 : -9223372036854775808 ≤ u) (q2 : u ≤ 9223372036854775807)
    {f : Bool} {was : Int} (Hf : Hid (f = decide (0 ≤ s ∧ s < 8 ∧ 0 ≤ u ∧ u < 8))) (Hwas : Hid (rowI (rowL l) s = was))
    {c0 c1 c2 c5 c12 c13 c14 c15 c16 c17 c18 c19 c20 c21 c22 c23 c24 c25 c26 c27 c28 c29 c30 c31 c32 c33 c34 c35 c36 c37 c38 c39 c40 c41 c42 c43 c44 c45 c46 c47 c48 c49 c50 c51 c52 c53 c54 c55 c56 c58 c59 c60 c61 c62 c63 c64 c65 c66 c67 c68 c69 c70 c71 c72 c73 c74 c75 c76 c77 c78 c79 c80 c81 c82 c83 c84 c85 c86 c87 c88 c89 c90 c91 c92 c93 c94 c95 c96 c97 c98 c99 c100 c101 c102 c103 c104 c105 c106 c107 c108 c109 c110 c111 c112 c113 c114 c115 c116 c117 c118 c119 c120 c121 c122 c123 c124 c125 c126 c127 c128 c129 c130 c131 c132 c133 c134 c135 c136 c137 c138 c139 c140 c141 c142 c143 c144 c145 c146 c147 c148 c149 c150 c151 c152 c153 c154 c155 c156 c157 c158 c159 c160 c161 c162 c163 c164 c165 c166 c167 c168 c169 c170 c171 c172 c173 c174 c175 c176 c177 c178 c179 c180 c181 c182 c183 c184 c185 c186 c187 c188 c189 c190 c191 c192 c193 c194 c195 c196 c197 c198 c199 c200 c201 : Value}
    (hex : Hid (∀ {z : Nat} {b : Bool} {v12 v13 v14 v15 v58 v59 v60 v61 v62 v63 v64 v65 v66 v67 v68 v69 v70 v71 v72 v73 v74 v75 v76 v77 v78 v79 v80 v81 v82 v83 v84 v85 v86 v87 v88 v89 v90 v91 v92 v93 v94 v95 v96 v97 v98 v99 v100 v101 v102 v103 v104 v105 v106 v107 v108 v109 v110 v111 v112 v113 v114 v115 v116 v117 v118 v119 v120 v121 v122 v123 v124 v125 v126 v127 v128 v129 v130 v131 v132 v133 v134 v135 v136 v137 v138 v139 v140 v141 v142 v143 v144 v145 v146 v147 v148 v149 v150 v151 v152 v153 v154 v155 v156 v157 v158 v159 v160 v161 v162 v163 v164 v165 v166 v167 v168 v169 v170 v171 v172 v173 v174 v175 v176 v177 v178 v179 v180 v181 v182 v183 v184 v185 : Value} {w' : World}, RowsAt W0 B z w' → Only K .normal ⟨#[c0, c1, c2, .int .u64 (z : Nat), .pointer (some ⟨B, 0, none⟩), c5, .int .i64 s, .int .i64 u, .bool f, .int .i64 was, .bool b, .bool b, v12, v13, v14, v15, c16, c17, c18, c19, c20, c21, c22, c23, c24, c25, c26, c27, c28, c29, c30, c31, c32, c33, c34, c35, c36, c37, c38, c39, c40, c41, c42, c43, c44, c45, c46, c47, c48, c49, c50, c51, c52, c53, c54, c55, c56, .int .i64 0, v58, v59, v60, v61, v62, v63, v64, v65, v66, v67, v68, v69, v70, v71, v72, v73, v74, v75, v76, v77, v78, v79, v80, v81, v82, v83, v84, v85, v86, v87, v88, v89, v90, v91, v92, v93, v94, v95, v96, v97, v98, v99, v100, v101, v102, v103, v104, v105, v106, v107, v108, v109, v110, v111, v112, v113, v114, v115, v116, v117, v118, v119, v120, v121, v122, v123, v124, v125, v126, v127, v128, v129, v130, v131, v132, v133, v134, v135, v136, v137, v138, v139, v140, v141, v142, v143, v144, v145, v146, v147, v148, v149, v150, v151, v152, v153, v154, v155, v156, v157, v158, v159, v160, v161, v162, v163, v164, v165, v166, v167, v168, v169, v170, v171, v172, v173, v174, v175, v176, v177, v178, v179, v180, v181, v182, v183, v184, v185, c186, c187, c188, c189, c190, c191, c192, c193, c194, c195, c196, c197, c198, c199, c200, c201], []⟩ w')) :
    sw.wp Try.prog (Only K) ⟨#[c0, c1, c2, .int .u64 (y : Nat), .pointer (some ⟨B, 0, none⟩), c5, .int .i64 s, .int .i64 u, .bool f, .int .i64 was, .bool false, .bool false, c12, c13, c14, c15, c16, c17, c18, c19, c20, c21, c22, c23, c24, c25, c26, c27, c28, c29, c30, c31, c32, c33, c34, c35, c36, c37, c38, c39, c40, c41, c42, c43, c44, c45, c46, c47, c48, c49, c50, c51, c52, c53, c54, c55, c56, .int .i64 0, c58, c59, c60, c61, c62, c63, c64, c65, c66, c67, c68, c69, c70, c71, c72, c73, c74, c75, c76, c77, c78, c79, c80, c81, c82, c83, c84, c85, c86, c87, c88, c89, c90, c91, c92, c93, c94, c95, c96, c97, c98, c99, c100, c101, c102, c103, c104, c105, c106, c107, c108, c109, c110, c111, c112, c113, c114, c115, c116, c117, c118, c119, c120, c121, c122, c123, c124, c125, c126, c127, c128, c129, c130, c131, c132, c133, c134, c135, c136, c137, c138, c139, c140, c141, c142, c143, c144, c145, c146, c147, c148, c149, c150, c151, c152, c153, c154, c155, c156, c157, c158, c159, c160, c161, c162, c163, c164, c165, c166, c167, c168, c169, c170, c171, c172, c173, c174, c175, c176, c177, c178, c179, c180, c181, c182, c183, c184, c185, c186, c187, c188, c189, c190, c191, c192, c193, c194, c195, c196, c197, c198, c199, c200, c201], []⟩ w2 := by
  conv => arg 2; whnf
  have hok := hr2.ok
  have hV := hr2.st
  by_cases hc : canPush l s u
  · obtain ⟨s0, s8, u0, u8, hno⟩ := hc
    have hwas : was = -1 := Hwas.out.symm.trans (rowI_none hno)
    have hft : f = true := by rw [Hf.out]; exact decide_eq_true ⟨s0, s8, u0, u8⟩
    obtain ⟨s', rfl⟩ := Int.eq_ofNat_of_zero_le s0
    obtain ⟨u', rfl⟩ := Int.eq_ofNat_of_zero_le u0
    have hno' : ∀ p, p ∈ l → p.1 ≠ s' := fun p hp => by have := hno p hp; omega
    have hs8 : s' < 8 := by omega
    have hu8 : u' < 8 := by omega
    obtain ⟨z, hz, HP⟩ := d_push hr2 hs8 hu8 hno'
    have HP := Lib.hid HP
    have Hno := Lib.hid hno'
    clear Hf Hwas hno hno'
    subst hwas
    subst hft
    go_wp2_with fail
    refine (HP.out _).mono ?_
    rintro e w3 ⟨rfl, hN3⟩
    have hV3 := Lib.hid (hV.out.new hN3)
    obtain ⟨v, hcell, hfr, hrd⟩ := hV3.out.at hu8
    go_wp2_with fail
    refine (put_slice s' true (by have := rowL_in_len hok u'; omega) hrd (cell_lt hcell)).mono ?_
    rintro e w4 ⟨ao', n', cap', rfl, hrd4, hb4, hN4⟩
    have hc4 := hN4.cell hcell id
    have hf4 := (hN4.frozen hcell id).trans hfr
    have HV4 := Lib.hid ((hV3.out.new hN4).put u' hrd4 hb4)
    clear hrd4 hb4 hrd hcell hfr
    go_wp2_with fail
    exact hex.out (z := z) (b := true) (rowsAt_of z hz (insL_ok hok hs8 hu8 Hno.out) HV4.out (fun i _ => rows_push hok Hno.out i))
  · have HP := Lib.hid (d_push_no hr2 s1 s2 q1 q2 hc)
    have hq : f = false ∨ (f = true ∧ decide (was < 0) = false) := by
      cases f with
      | false => exact .inl rfl
      | true =>
        refine .inr ⟨rfl, ?_⟩
        have hf := of_decide_eq_true Hf.out.symm
        rcases rowI_cases hok s with ⟨p, hp, e, h⟩ | ⟨hno, h⟩
        · rw [← Hwas.out, h]; exact decide_eq_false (by omega)
        · exact absurd ⟨hf.1, hf.2.1, hf.2.2.1, hf.2.2.2, hno⟩ hc
    clear hc Hf Hwas
    rcases hq with rfl | ⟨rfl, hq⟩
    all_goals
      go_wp2_with fail
      refine (HP.out _).mono ?_
      rintro e w3 ⟨rfl, hN3⟩
      go_wp2_with fail
      exact hex.out (z := y) (b := false) (show RowsAt _ _ _ _ from ⟨l, hr2.new hN3⟩)
set_option maxRecDepth 100000 in
set_option maxHeartbeats 4000000 in
theorem sw3 {K : Act → World → Prop} {W0 w2 : World} {B y : Nat} {l : List (Nat × Nat)} (hr2 : RowsAt' W0 B y l w2) {s u : Int} {d : Int} (hd0 : ¬ d = 0) (hd1 : ¬ d = 1) (hd2 : ¬ d = 2) (s1 : -9223372036854775808 ≤ s) (s2 : s ≤ 9223372036854775807) (q1 : -9223372036854775808 ≤ u) (q2 : u ≤ 9223372036854775807)
    {f : Bool} {was : Int} (Hf : Hid (f = decide (0 ≤ s ∧ s < 8 ∧ 0 ≤ u ∧ u < 8))) (Hwas : Hid (rowI (rowL l) s = was))
    {c0 c1 c2 c5 c12 c13 c14 c15 c16 c17 c18 c19 c20 c21 c22 c23 c24 c25 c26 c27 c28 c29 c30 c31 c32 c33 c34 c35 c36 c37 c38 c39 c40 c41 c42 c43 c44 c45 c46 c47 c48 c49 c50 c51 c52 c53 c54 c55 c56 c58 c59 c60 c61 c62 c63 c64 c65 c66 c67 c68 c69 c70 c71 c72 c73 c74 c75 c76 c77 c78 c79 c80 c81 c82 c83 c84 c85 c86 c87 c88 c89 c90 c91 c92 c93 c94 c95 c96 c97 c98 c99 c100 c101 c102 c103 c104 c105 c106 c107 c108 c109 c110 c111 c112 c113 c114 c115 c116 c117 c118 c119 c120 c121 c122 c123 c124 c125 c126 c127 c128 c129 c130 c131 c132 c133 c134 c135 c136 c137 c138 c139 c140 c141 c142 c143 c144 c145 c146 c147 c148 c149 c150 c151 c152 c153 c154 c155 c156 c157 c158 c159 c160 c161 c162 c163 c164 c165 c166 c167 c168 c169 c170 c171 c172 c173 c174 c175 c176 c177 c178 c179 c180 c181 c182 c183 c184 c185 c186 c187 c188 c189 c190 c191 c192 c193 c194 c195 c196 c197 c198 c199 c200 c201 : Value}
    (hex : Hid (∀ {z : Nat} {b : Bool} {v12 v13 v14 v15 v58 v59 v60 v61 v62 v63 v64 v65 v66 v67 v68 v69 v70 v71 v72 v73 v74 v75 v76 v77 v78 v79 v80 v81 v82 v83 v84 v85 v86 v87 v88 v89 v90 v91 v92 v93 v94 v95 v96 v97 v98 v99 v100 v101 v102 v103 v104 v105 v106 v107 v108 v109 v110 v111 v112 v113 v114 v115 v116 v117 v118 v119 v120 v121 v122 v123 v124 v125 v126 v127 v128 v129 v130 v131 v132 v133 v134 v135 v136 v137 v138 v139 v140 v141 v142 v143 v144 v145 v146 v147 v148 v149 v150 v151 v152 v153 v154 v155 v156 v157 v158 v159 v160 v161 v162 v163 v164 v165 v166 v167 v168 v169 v170 v171 v172 v173 v174 v175 v176 v177 v178 v179 v180 v181 v182 v183 v184 v185 : Value} {w' : World}, RowsAt W0 B z w' → Only K .normal ⟨#[c0, c1, c2, .int .u64 (z : Nat), .pointer (some ⟨B, 0, none⟩), c5, .int .i64 s, .int .i64 u, .bool f, .int .i64 was, .bool b, .bool b, v12, v13, v14, v15, c16, c17, c18, c19, c20, c21, c22, c23, c24, c25, c26, c27, c28, c29, c30, c31, c32, c33, c34, c35, c36, c37, c38, c39, c40, c41, c42, c43, c44, c45, c46, c47, c48, c49, c50, c51, c52, c53, c54, c55, c56, .int .i64 d, v58, v59, v60, v61, v62, v63, v64, v65, v66, v67, v68, v69, v70, v71, v72, v73, v74, v75, v76, v77, v78, v79, v80, v81, v82, v83, v84, v85, v86, v87, v88, v89, v90, v91, v92, v93, v94, v95, v96, v97, v98, v99, v100, v101, v102, v103, v104, v105, v106, v107, v108, v109, v110, v111, v112, v113, v114, v115, v116, v117, v118, v119, v120, v121, v122, v123, v124, v125, v126, v127, v128, v129, v130, v131, v132, v133, v134, v135, v136, v137, v138, v139, v140, v141, v142, v143, v144, v145, v146, v147, v148, v149, v150, v151, v152, v153, v154, v155, v156, v157, v158, v159, v160, v161, v162, v163, v164, v165, v166, v167, v168, v169, v170, v171, v172, v173, v174, v175, v176, v177, v178, v179, v180, v181, v182, v183, v184, v185, c186, c187, c188, c189, c190, c191, c192, c193, c194, c195, c196, c197, c198, c199, c200, c201], []⟩ w')) :
    sw.wp Try.prog (Only K) ⟨#[c0, c1, c2, .int .u64 (y : Nat), .pointer (some ⟨B, 0, none⟩), c5, .int .i64 s, .int .i64 u, .bool f, .int .i64 was, .bool false, .bool false, c12, c13, c14, c15, c16, c17, c18, c19, c20, c21, c22, c23, c24, c25, c26, c27, c28, c29, c30, c31, c32, c33, c34, c35, c36, c37, c38, c39, c40, c41, c42, c43, c44, c45, c46, c47, c48, c49, c50, c51, c52, c53, c54, c55, c56, .int .i64 d, c58, c59, c60, c61, c62, c63, c64, c65, c66, c67, c68, c69, c70, c71, c72, c73, c74, c75, c76, c77, c78, c79, c80, c81, c82, c83, c84, c85, c86, c87, c88, c89, c90, c91, c92, c93, c94, c95, c96, c97, c98, c99, c100, c101, c102, c103, c104, c105, c106, c107, c108, c109, c110, c111, c112, c113, c114, c115, c116, c117, c118, c119, c120, c121, c122, c123, c124, c125, c126, c127, c128, c129, c130, c131, c132, c133, c134, c135, c136, c137, c138, c139, c140, c141, c142, c143, c144, c145, c146, c147, c148, c149, c150, c151, c152, c153, c154, c155, c156, c157, c158, c159, c160, c161, c162, c163, c164, c165, c166, c167, c168, c169, c170, c171, c172, c173, c174, c175, c176, c177, c178, c179, c180, c181, c182, c183, c184, c185, c186, c187, c188, c189, c190, c191, c192, c193, c194, c195, c196, c197, c198, c199, c200, c201], []⟩ w2 := by
  conv => arg 2; whnf
  have hok := hr2.ok
  have hV := hr2.st
  have dn0 : (d == 0) = false := beq_eq_false_iff_ne.2 hd0
  have dn1 : (d == 1) = false := beq_eq_false_iff_ne.2 hd1
  have dn2 : (d == 2) = false := beq_eq_false_iff_ne.2 hd2
  clear hd0 hd1 hd2
  rcases rowI_cases hok s with ⟨p, hp, rfl, h⟩ | ⟨hno, h⟩
  · have hwas : was = (p.2 : Int) := Hwas.out.symm.trans h
    obtain ⟨z, hz, HP⟩ := d_out hr2 hp
    have HP := Lib.hid HP
    have hu8 := (hok.inn p hp).2
    have hgt : decide ((0 : Int) ≤ (p.2 : Int)) = true := decide_eq_true (by omega)
    clear Hf Hwas h
    subst hwas
    go_wp2_with fail
    refine (HP.out _).mono ?_
    rintro e w3 ⟨rfl, hN3⟩
    have hV3 := Lib.hid (hV.out.new hN3)
    obtain ⟨v, hcell, hfr, hrd⟩ := hV3.out.at hu8
    go_wp2_with fail
    refine (put_slice p.1 false (by have := rowL_in_len hok p.2; omega) hrd (cell_lt hcell)).mono ?_
    rintro e w4 ⟨ao', n', cap', rfl, hrd4, hb4, hN4⟩
    have hc4 := hN4.cell hcell id
    have hf4 := (hN4.frozen hcell id).trans hfr
    have HV4 := Lib.hid ((hV3.out.new hN4).put p.2 hrd4 hb4)
    clear hrd4 hb4 hrd hcell hfr
    go_wp2_with fail
    exact hex.out (z := z) (b := true) (rowsAt_of z hz (delL_ok hok p.1) HV4.out (fun i _ => rows_out hok hp i))
  · have hwas : was = -1 := Hwas.out.symm.trans h
    have HP := Lib.hid (d_out_no hr2 hno)
    clear Hf Hwas h hno
    subst hwas
    go_wp2_with fail
    refine (HP.out _).mono ?_
    rintro e w3 ⟨rfl, hN3⟩
    go_wp2_with fail
    exact hex.out (z := y) (b := false) (show RowsAt _ _ _ _ from ⟨l, hr2.new hN3⟩)
end Go.Proofs.Ytlkepbmjagjfeaa
