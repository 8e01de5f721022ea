/- Own and printed texts that the theorem of WitnessBoth reaches, put together. -/
import Derived.Test.YtkiklmmpflndbaaDoorqWitnessBoth15
set_option linter.unusedVariables false
set_option linter.unusedSimpArgs false
namespace Go.Proofs.YtkiklmmpflndbaaDoor.P
open Go.RowKit Go.Proofs.YtkiklmmpflndbaaDoorW.PrintWords Go.Proofs.YtkiklmmpflndbaaDoorW.PrintLast Go.Proofs.YtkiklmmpflndbaaDoorW.PrintMore
set_option maxHeartbeats 40000000 in
set_option maxRecDepth 100000 in
theorem refB (w wx : World) (K : Exit → Act → World → Prop) {v0 v1 v7 : Value} (ps qs : List Op) (os : List Step) (e : Bool) (gx gy : Nat) (x y : Op) {u4 u5 u6 u12 u13 u14 u15 u16 u17 u18 u19 u20 u21 u22 u23 u24 u25 u26 u27 u28 u29 u30 u31 u32 u33 u34 u35 u36 u37 u38 u39 u40 u41 u42 u43 u44 u45 u46 u47 u48 u49 u50 u51 u52 u53 u54 u55 u56 u57 u58 u59 u60 u61 u62 u63 u64 u65 u66 u67 u68 u69 u70 u71 u72 u73 u74 u75 u76 u77 u78 u79 u80 u81 u82 u83 u84 u85 u86 u87 u88 u89 u90 u91 u92 u93 u94 u95 u96 u97 u98 u99 u100 u101 u102 u103 u104 u105 u106 u107 u108 u109 u110 u111 u112 u113 u114 u115 u116 u117 u118 u119 u120 u121 u122 u123 u124 u125 u126 u127 u128 u129 u130 u131 u132 u133 u134 u135 u136 u137 u138 u139 u140 u141 u142 u143 u144 u145 u146 u147 u148 u149 u150 u151 u152 u153 u154 u155 u156 u157 u158 u159 u160 u161 u162 u163 u164 u165 u166 u167 u168 u169 u170 u171 u172 u173 u174 u175 u176 u177 u178 u179 u180 u181 u182 u183 u184 : Value} (HS : Aside0 (RefS w wx v0 v1 v7 ps qs (byS os) gx gy x y)) (HL : Aside0 ((byS os).length < 2199023255552)) (HP : Aside0 ((∀ o ∈ ps, okR1 o = true) ∧ (∀ o ∈ qs, okR1 o = true) ∧ ps.length + qs.length ≤ 1099511627776)) (HX : Aside0 ((x.f0 = 1 ∨ x.f0 = 2 ∨ x.f0 = 4) ∧ (y.f0 = 1 ∨ y.f0 = 2 ∨ y.f0 = 3))) (HXT : Aside0 ((x.f0 = 1 ↔ x.f2 = ⟨#[]⟩) ∧ x.f2.size < 1073741824 ∧ (x.f0 = 1 → 1 ≤ x.f1 ∧ x.f1 ≤ 1099511627776))) (HYT : Aside0 ((y.f0 = 1 ↔ y.f2 = ⟨#[]⟩) ∧ y.f2.size < 1073741824 ∧ (y.f0 = 1 → 1 ≤ y.f1 ∧ y.f1 ≤ 1099511627776)))
  (HK : Aside0 (noneL x y e = false → (∀ (v0 v1 v7 : Value) (b e' : Bool) (u4 u5 u6 u10 u11 u12 u13 u14 u15 u16 u17 u18 u19 u20 u21 u22 u23 u24 u25 u26 u27 u28 u29 u30 u31 u32 u33 u34 u35 u36 u37 u38 u39 u40 u41 u42 u43 u44 u45 u46 u47 u48 u49 u50 u51 u52 u53 u54 u55 u56 u57 u58 u59 u60 u61 u62 u63 u64 u65 u66 u67 u68 u69 u70 u71 u72 u73 u74 u75 u76 u77 u78 u79 u80 u81 u82 u83 u84 u85 u86 u87 u88 u89 u90 u91 u92 u93 u94 u95 u96 u97 u98 u99 u100 u101 u102 u103 u104 u105 u106 u107 u108 u109 u110 u111 u112 u113 u114 u115 u116 u117 u118 u119 u120 u121 u122 u123 u124 u125 u126 u127 u128 u129 u130 u131 u132 u133 u134 u135 u136 u137 u138 u139 u140 u141 u142 u143 u144 u145 u146 u147 u148 u149 u150 u151 u152 u153 u154 u155 u156 u157 u158 u159 u160 u161 u162 u163 u164 u165 u166 u167 u168 u169 u170 u171 u172 u173 u174 u175 u176 u177 u178 u179 u180 u181 u182 u183 u184 : Value) (w' : World), RefW w w' v0 v1 v7 (dropL ps (lineL x y).2.1) (dropL qs (lineL x y).2.1) (byS (os ++ [(lineL x y).2.2])) (fun _ => True) → b = metS (os ++ [(lineL x y).2.2]) → e' = opnB (lineL x y).1 → K .normal ⟨#[v0, v1, undef, undef, u4, u5, u6, v7, .bool b, .bool e', u10, u11, u12, u13, u14, u15, u16, u17, u18, u19, u20, u21, u22, u23, u24, u25, u26, u27, u28, u29, u30, u31, u32, u33, u34, u35, u36, u37, u38, u39, u40, u41, u42, u43, u44, u45, u46, u47, u48, u49, u50, u51, u52, u53, u54, u55, u56, u57, u58, u59, u60, u61, u62, u63, u64, u65, u66, u67, u68, u69, u70, u71, u72, u73, u74, u75, u76, u77, u78, u79, u80, u81, u82, u83, u84, u85, u86, u87, u88, u89, u90, u91, u92, u93, u94, u95, u96, u97, u98, u99, u100, u101, u102, u103, u104, u105, u106, u107, u108, u109, u110, u111, u112, u113, u114, u115, u116, u117, u118, u119, u120, u121, u122, u123, u124, u125, u126, u127, u128, u129, u130, u131, u132, u133, u134, u135, u136, u137, u138, u139, u140, u141, u142, u143, u144, u145, u146, u147, u148, u149, u150, u151, u152, u153, u154, u155, u156, u157, u158, u159, u160, u161, u162, u163, u164, u165, u166, u167, u168, u169, u170, u171, u172, u173, u174, u175, u176, u177, u178, u179, u180, u181, u182, u183, u184, undef, undef], []⟩ w')))
  (HR : Aside0 (noneL x y e = true → ∀ (u0 u1 u7 u8 u9 u10 u11 u12 u13 u14 u15 u16 u17 u18 u19 u20 u21 u22 u23 u24 u25 u26 u27 u28 u29 u30 u31 u32 u33 u34 u35 u36 u37 u38 u39 u40 u41 u42 u43 u44 u45 u46 u47 u48 u49 u50 u51 u52 u53 u54 u55 u56 u57 u58 u59 u60 u61 u62 u63 u64 u65 u66 u67 u68 u69 u70 u71 u72 u73 u74 u75 u76 u77 u78 u79 u80 u81 u82 u83 u84 u85 u86 u87 u88 u89 u90 u91 u92 u93 u94 u95 u96 u97 u98 u99 u100 u101 u102 u103 u104 u105 u106 u107 u108 u109 u110 u111 u112 u113 u114 u115 u116 u117 u118 u119 u120 u121 u122 u123 u124 u125 u126 u127 u128 u129 u130 u131 u132 u133 u134 u135 u136 u137 u138 u139 u140 u141 u142 u143 u144 u145 u146 u147 u148 u149 u150 u151 u152 u153 u154 u155 u156 u157 u158 u159 u160 u161 u162 u163 u164 u165 u166 u167 u168 u169 u170 u171 u172 u173 u174 u175 u176 u177 u178 u179 u180 u181 u182 u183 u184 : Value) (w' : World), Below w.heap.size w w' → K .ret ⟨#[u0, u1, undef, undef, .slice none 0 0, .bool false, .bool false, u7, u8, u9, u10, u11, u12, u13, u14, u15, u16, u17, u18, u19, u20, u21, u22, u23, u24, u25, u26, u27, u28, u29, u30, u31, u32, u33, u34, u35, u36, u37, u38, u39, u40, u41, u42, u43, u44, u45, u46, u47, u48, u49, u50, u51, u52, u53, u54, u55, u56, u57, u58, u59, u60, u61, u62, u63, u64, u65, u66, u67, u68, u69, u70, u71, u72, u73, u74, u75, u76, u77, u78, u79, u80, u81, u82, u83, u84, u85, u86, u87, u88, u89, u90, u91, u92, u93, u94, u95, u96, u97, u98, u99, u100, u101, u102, u103, u104, u105, u106, u107, u108, u109, u110, u111, u112, u113, u114, u115, u116, u117, u118, u119, u120, u121, u122, u123, u124, u125, u126, u127, u128, u129, u130, u131, u132, u133, u134, u135, u136, u137, u138, u139, u140, u141, u142, u143, u144, u145, u146, u147, u148, u149, u150, u151, u152, u153, u154, u155, u156, u157, u158, u159, u160, u161, u162, u163, u164, u165, u166, u167, u168, u169, u170, u171, u172, u173, u174, u175, u176, u177, u178, u179, u180, u181, u182, u183, u184, undef, undef], []⟩ w')) :
  Code.wp Tryd.prog (refRest 6) K ⟨#[v0, v1, undef, undef, u4, u5, u6, v7, .bool (metS os), .bool e, .pointer (some ⟨gx, 0, none⟩), .pointer (some ⟨gy, 0, none⟩), u12, u13, u14, u15, u16, u17, u18, u19, u20, u21, u22, u23, u24, u25, u26, u27, u28, u29, u30, u31, u32, u33, u34, u35, u36, u37, u38, u39, u40, u41, u42, u43, u44, u45, u46, u47, u48, u49, u50, u51, u52, u53, u54, u55, u56, u57, u58, u59, u60, u61, u62, u63, u64, u65, u66, u67, u68, u69, u70, u71, u72, u73, u74, u75, u76, u77, u78, u79, u80, u81, u82, u83, u84, u85, u86, u87, u88, u89, u90, u91, u92, u93, u94, u95, u96, u97, u98, u99, u100, u101, u102, u103, u104, u105, u106, u107, u108, u109, u110, u111, u112, u113, u114, u115, u116, u117, u118, u119, u120, u121, u122, u123, u124, u125, u126, u127, u128, u129, u130, u131, u132, u133, u134, u135, u136, u137, u138, u139, u140, u141, u142, u143, u144, u145, u146, u147, u148, u149, u150, u151, u152, u153, u154, u155, u156, u157, u158, u159, u160, u161, u162, u163, u164, u165, u166, u167, u168, u169, u170, u171, u172, u173, u174, u175, u176, u177, u178, u179, u180, u181, u182, u183, u184, undef, undef], []⟩ wx := by
 have a0 : wx.cell? ⟨gx, 0, none⟩ = some (.int .i64 x.f0) := (blk_cell HS.out.2.1 0).trans rfl
 have a1 : wx.cell? ⟨gx, 1, none⟩ = some (.int .i64 x.f1) := (blk_cell HS.out.2.1 1).trans rfl
 have a2 : wx.cell? ⟨gx, 2, none⟩ = some (.string x.f2) := (blk_cell HS.out.2.1 2).trans rfl
 have b0 : wx.cell? ⟨gy, 0, none⟩ = some (.int .i64 y.f0) := (blk_cell HS.out.2.2.1 0).trans rfl
 have b1 : wx.cell? ⟨gy, 1, none⟩ = some (.int .i64 y.f1) := (blk_cell HS.out.2.2.1 1).trans rfl
 have b2 : wx.cell? ⟨gy, 2, none⟩ = some (.string y.f2) := (blk_cell HS.out.2.2.1 2).trans rfl
 conv => arg 2; whnf
 have ox := open_val (s := x.f2) (by have := HXT.out.2.1; omega)
 have oy := open_val (s := y.f2) (by have := HYT.out.2.1; omega)
 have bx := HXT.out.2.2
 have by_ := HYT.out.2.2
 cases e with
 | true =>
  clear ox oy bx by_
  go_wp2
  apply HR.out rfl
  exact HS.out.1.1
 | false =>
  by_cases kx : x.f0 = 1
  ·obtain ⟨x1, x2⟩ := bx kx
   by_cases ky : y.f0 = 1
   ·obtain ⟨y1, y2⟩ := by_ ky
    clear ox oy bx by_
    have ex : (x.f0 == 1) = true := beq_iff_eq.mpr kx
    have nx : (x.f0 != 1) = false := bne_eq_false_iff_eq.mpr kx
    have ey : (y.f0 == 1) = true := beq_iff_eq.mpr ky
    have ny : (y.f0 != 1) = false := bne_eq_false_iff_eq.mpr ky
    by_cases hc : y.f1 < x.f1
    ·have HE := Aside0.mk (show y.f1 = (lineL x y).2.1 ∧ noneL x y false = false ∧ endB x y = false from ⟨by simp [lineL, kx, ky]; omega, by simp [noneL, kx], by simp [endB, kx, ky]⟩)
     have dc : decide (y.f1 < x.f1) = true := decide_eq_true hc
     clear kx ky hc x1 x2 y1 y2
     go_upto_region 999 with (first | ((with_reducible show Code.wp _ (Code.seq (Code.block 2 _) _) _ _ _); refine Aside0.out ?_))
     refine ⟨?_⟩
     refine refC w _ K ps qs os gx gy x y y.f1 ⟨HS.out.below (Below.refl _ _)⟩ HL HP ⟨HE.out.1⟩ ⟨HX.out.1, HX.out.2, HXT.out.1.mp⟩ ⟨?_⟩
     intros
     apply HK.out HE.out.2.1
     ·rw [← HE.out.1]; assumption
     ·assumption
     ·rw [← end_line HXT.out.1 HYT.out.1 HE.out.2.1, HE.out.2.2]
    ·have HE := Aside0.mk (show x.f1 = (lineL x y).2.1 ∧ noneL x y false = false ∧ endB x y = false from ⟨by simp [lineL, kx, ky]; omega, by simp [noneL, kx], by simp [endB, kx, ky]⟩)
     have dc : decide (y.f1 < x.f1) = false := decide_eq_false hc
     clear kx ky hc x1 x2 y1 y2
     go_upto_region 999 with (first | ((with_reducible show Code.wp _ (Code.seq (Code.block 2 _) _) _ _ _); refine Aside0.out ?_))
     refine ⟨?_⟩
     refine refC w _ K ps qs os gx gy x y x.f1 ⟨HS.out.below (Below.refl _ _)⟩ HL HP ⟨HE.out.1⟩ ⟨HX.out.1, HX.out.2, HXT.out.1.mp⟩ ⟨?_⟩
     intros
     apply HK.out HE.out.2.1
     ·rw [← HE.out.1]; assumption
     ·assumption
     ·rw [← end_line HXT.out.1 HYT.out.1 HE.out.2.1, HE.out.2.2]
   ·clear x1 x2 by_ bx
    have ex : (x.f0 == 1) = true := beq_iff_eq.mpr kx
    have nx : (x.f0 != 1) = false := bne_eq_false_iff_eq.mpr kx
    have ey : (y.f0 == 1) = false := beq_eq_false_iff_ne.mpr ky
    have ny : (y.f0 != 1) = true := bne_iff_ne.mpr ky
    cases hoy : openT y.f2
    ·have Oy := Aside0.mk (oy.trans (congrArg some hoy))
     have HE := Aside0.mk (show 1 = (lineL x y).2.1 ∧ noneL x y false = false ∧ endB x y = false from ⟨by simp [lineL, kx, ky], by simp [noneL, kx], by simp [endB, kx, ky, hoy]⟩)
     clear kx ky hoy ox oy
     go_upto_region 999 with (first | (go_at_call 15; (with_reducible refine (patchworkref1_Open.calls y.f2 false _ Oy.out).mono ?_); rintro e_ w8 ⟨rfl, hw8⟩; obtain ⟨nd_y, rfl⟩ := hw8.out; clear hw8) | ((with_reducible show Code.wp _ (Code.seq (Code.block 2 _) _) _ _ _); refine Aside0.out ?_))
     refine ⟨?_⟩
     refine refC w _ K ps qs os gx gy x y 1 ⟨HS.out.below (pw_below_drewN (Below.refl _ _) _)⟩ HL HP ⟨HE.out.1⟩ ⟨HX.out.1, HX.out.2, HXT.out.1.mp⟩ ⟨?_⟩
     intros
     apply HK.out HE.out.2.1
     ·rw [← HE.out.1]; assumption
     ·assumption
     ·rw [← end_line HXT.out.1 HYT.out.1 HE.out.2.1, HE.out.2.2]
    ·have Oy := Aside0.mk (oy.trans (congrArg some hoy))
     have HE := Aside0.mk (show 1 = (lineL x y).2.1 ∧ noneL x y false = false ∧ endB x y = true from ⟨by simp [lineL, kx, ky], by simp [noneL, kx], by simp [endB, kx, ky, hoy]⟩)
     clear kx ky hoy ox oy
     go_upto_region 999 with (first | (go_at_call 15; (with_reducible refine (patchworkref1_Open.calls y.f2 true _ Oy.out).mono ?_); rintro e_ w8 ⟨rfl, hw8⟩; obtain ⟨nd_y, rfl⟩ := hw8.out; clear hw8) | ((with_reducible show Code.wp _ (Code.seq (Code.block 2 _) _) _ _ _); refine Aside0.out ?_))
     refine ⟨?_⟩
     refine refC w _ K ps qs os gx gy x y 1 ⟨HS.out.below (pw_below_drewN (Below.refl _ _) _)⟩ HL HP ⟨HE.out.1⟩ ⟨HX.out.1, HX.out.2, HXT.out.1.mp⟩ ⟨?_⟩
     intros
     apply HK.out HE.out.2.1
     ·rw [← HE.out.1]; assumption
     ·assumption
     ·rw [← end_line HXT.out.1 HYT.out.1 HE.out.2.1, HE.out.2.2]
  ·by_cases ky : y.f0 = 1
   ·clear by_ bx
    have ex : (x.f0 == 1) = false := beq_eq_false_iff_ne.mpr kx
    have nx : (x.f0 != 1) = true := bne_iff_ne.mpr kx
    have ey : (y.f0 == 1) = true := beq_iff_eq.mpr ky
    have ny : (y.f0 != 1) = false := bne_eq_false_iff_eq.mpr ky
    cases hox : openT x.f2
    ·have Ox := Aside0.mk (ox.trans (congrArg some hox))
     have HE := Aside0.mk (show 1 = (lineL x y).2.1 ∧ noneL x y false = false ∧ endB x y = false from ⟨by simp [lineL, kx, ky], by simp [noneL, ky], by simp [endB, kx, ky, hox]⟩)
     clear kx ky hox ox oy
     go_upto_region 999 with (first | (go_at_call 15; (with_reducible refine (patchworkref1_Open.calls x.f2 false _ Ox.out).mono ?_); rintro e_ w8 ⟨rfl, hw8⟩; obtain ⟨nd_x, rfl⟩ := hw8.out; clear hw8) | ((with_reducible show Code.wp _ (Code.seq (Code.block 2 _) _) _ _ _); refine Aside0.out ?_))
     refine ⟨?_⟩
     refine refC w _ K ps qs os gx gy x y 1 ⟨HS.out.below (pw_below_drewN (Below.refl _ _) _)⟩ HL HP ⟨HE.out.1⟩ ⟨HX.out.1, HX.out.2, HXT.out.1.mp⟩ ⟨?_⟩
     intros
     apply HK.out HE.out.2.1
     ·rw [← HE.out.1]; assumption
     ·assumption
     ·rw [← end_line HXT.out.1 HYT.out.1 HE.out.2.1, HE.out.2.2]
    ·have Ox := Aside0.mk (ox.trans (congrArg some hox))
     have HE := Aside0.mk (show 1 = (lineL x y).2.1 ∧ noneL x y false = false ∧ endB x y = true from ⟨by simp [lineL, kx, ky], by simp [noneL, ky], by simp [endB, kx, ky, hox]⟩)
     clear kx ky hox ox oy
     go_upto_region 999 with (first | (go_at_call 15; (with_reducible refine (patchworkref1_Open.calls x.f2 true _ Ox.out).mono ?_); rintro e_ w8 ⟨rfl, hw8⟩; obtain ⟨nd_x, rfl⟩ := hw8.out; clear hw8) | ((with_reducible show Code.wp _ (Code.seq (Code.block 2 _) _) _ _ _); refine Aside0.out ?_))
     refine ⟨?_⟩
     refine refC w _ K ps qs os gx gy x y 1 ⟨HS.out.below (pw_below_drewN (Below.refl _ _) _)⟩ HL HP ⟨HE.out.1⟩ ⟨HX.out.1, HX.out.2, HXT.out.1.mp⟩ ⟨?_⟩
     intros
     apply HK.out HE.out.2.1
     ·rw [← HE.out.1]; assumption
     ·assumption
     ·rw [← end_line HXT.out.1 HYT.out.1 HE.out.2.1, HE.out.2.2]
   ·clear by_ bx
    have ex : (x.f0 == 1) = false := beq_eq_false_iff_ne.mpr kx
    have nx : (x.f0 != 1) = true := bne_iff_ne.mpr kx
    have ey : (y.f0 == 1) = false := beq_eq_false_iff_ne.mpr ky
    have ny : (y.f0 != 1) = true := bne_iff_ne.mpr ky
    by_cases ht : x.f2 = y.f2
    ·have td : (x.f2.toList != y.f2.toList) = false := by rw [ht]; simp
     have tc : (x.f2.toList == y.f2.toList) = true := by rw [ht]; simp
     cases hox : openT x.f2
     ·have hoy : openT y.f2 = false := by rw [← ht]; exact hox
      have Ox := Aside0.mk (ox.trans (congrArg some hox))
      have Oy := Aside0.mk (oy.trans (congrArg some hoy))
      have HE := Aside0.mk (show 1 = (lineL x y).2.1 ∧ noneL x y false = false ∧ endB x y = false from ⟨by simp [lineL, kx, ky], by simp [noneL, ht], by simp [endB, kx, ky, hox, hoy]⟩)
      clear kx ky hox hoy ox oy ht
      go_upto_region 999 with (first | (go_at_call 15; (with_reducible refine (patchworkref1_Open.calls x.f2 false _ Ox.out).mono ?_); rintro e_ w8 ⟨rfl, hw8⟩; obtain ⟨nd_x, rfl⟩ := hw8.out; clear hw8) | (go_at_call 15; (with_reducible refine (patchworkref1_Open.calls y.f2 false _ Oy.out).mono ?_); rintro e_ w8 ⟨rfl, hw8⟩; obtain ⟨nd_y, rfl⟩ := hw8.out; clear hw8) | ((with_reducible show Code.wp _ (Code.seq (Code.block 2 _) _) _ _ _); refine Aside0.out ?_))
      refine ⟨?_⟩
      refine refC w _ K ps qs os gx gy x y 1 ⟨HS.out.below (pw_below_drewN (Below.refl _ _) _)⟩ HL HP ⟨HE.out.1⟩ ⟨HX.out.1, HX.out.2, HXT.out.1.mp⟩ ⟨?_⟩
      intros
      apply HK.out HE.out.2.1
      ·rw [← HE.out.1]; assumption
      ·assumption
      ·rw [← end_line HXT.out.1 HYT.out.1 HE.out.2.1, HE.out.2.2]
     ·have Ox := Aside0.mk (ox.trans (congrArg some hox))
      have HE := Aside0.mk (show 1 = (lineL x y).2.1 ∧ noneL x y false = false ∧ endB x y = true from ⟨by simp [lineL, kx, ky], by simp [noneL, ht], by simp [endB, kx, ky, hox]⟩)
      clear kx ky hox ox oy ht
      go_upto_region 999 with (first | (go_at_call 15; (with_reducible refine (patchworkref1_Open.calls x.f2 true _ Ox.out).mono ?_); rintro e_ w8 ⟨rfl, hw8⟩; obtain ⟨nd_x, rfl⟩ := hw8.out; clear hw8) | ((with_reducible show Code.wp _ (Code.seq (Code.block 2 _) _) _ _ _); refine Aside0.out ?_))
      refine ⟨?_⟩
      refine refC w _ K ps qs os gx gy x y 1 ⟨HS.out.below (pw_below_drewN (Below.refl _ _) _)⟩ HL HP ⟨HE.out.1⟩ ⟨HX.out.1, HX.out.2, HXT.out.1.mp⟩ ⟨?_⟩
      intros
      apply HK.out HE.out.2.1
      ·rw [← HE.out.1]; assumption
      ·assumption
      ·rw [← end_line HXT.out.1 HYT.out.1 HE.out.2.1, HE.out.2.2]
    ·have td : (x.f2.toList != y.f2.toList) = true := bne_iff_ne.mpr (fun h => ht (txt_eq h))
     have tc : (x.f2.toList == y.f2.toList) = false := beq_eq_false_iff_ne.mpr (fun h => ht (txt_eq h))
     have HE := Aside0.mk (show noneL x y false = true from by simp [noneL, kx, ky, ht])
     clear kx ky ht
     cases hox : openT x.f2
     ·have Ox := Aside0.mk (ox.trans (congrArg some hox))
      cases hoy : openT y.f2
      ·have Oy := Aside0.mk (oy.trans (congrArg some hoy))
       clear hox hoy ox oy
       go_wp2_with (first | (go_at_call 15; (with_reducible refine (patchworkref1_Open.calls x.f2 false _ Ox.out).mono ?_); rintro e_ w8 ⟨rfl, hw8⟩; obtain ⟨nd_x, rfl⟩ := hw8.out; clear hw8) | (go_at_call 15; (with_reducible refine (patchworkref1_Open.calls y.f2 false _ Oy.out).mono ?_); rintro e_ w8 ⟨rfl, hw8⟩; obtain ⟨nd_y, rfl⟩ := hw8.out; clear hw8))
       apply HR.out HE.out
       exact (HS.out.below (pw_below_drewN (Below.refl _ _) _)).1.1
      ·have Oy := Aside0.mk (oy.trans (congrArg some hoy))
       clear hox hoy ox oy
       go_wp2_with (first | (go_at_call 15; (with_reducible refine (patchworkref1_Open.calls x.f2 false _ Ox.out).mono ?_); rintro e_ w8 ⟨rfl, hw8⟩; obtain ⟨nd_x, rfl⟩ := hw8.out; clear hw8) | (go_at_call 15; (with_reducible refine (patchworkref1_Open.calls y.f2 true _ Oy.out).mono ?_); rintro e_ w8 ⟨rfl, hw8⟩; obtain ⟨nd_y, rfl⟩ := hw8.out; clear hw8))
       apply HR.out HE.out
       exact (HS.out.below (pw_below_drewN (Below.refl _ _) _)).1.1
     ·have Ox := Aside0.mk (ox.trans (congrArg some hox))
      clear hox ox oy
      go_wp2_with (first | (go_at_call 15; (with_reducible refine (patchworkref1_Open.calls x.f2 true _ Ox.out).mono ?_); rintro e_ w8 ⟨rfl, hw8⟩; obtain ⟨nd_x, rfl⟩ := hw8.out; clear hw8))
      apply HR.out HE.out
      exact (HS.out.below (pw_below_drewN (Below.refl _ _) _)).1.1
set_option maxHeartbeats 40000000 in
set_option maxRecDepth 100000 in
theorem refA (w wr : World) (K : Exit → Act → World → Prop) {v0 v1 v7 : Value} (ps qs : List Op) (os : List Step) (e : Bool) (x y : Op) {u4 u5 u6 u10 u11 u12 u13 u14 u15 u16 u17 u18 u19 u20 u21 u22 u23 u24 u25 u26 u27 u28 u29 u30 u31 u32 u33 u34 u35 u36 u37 u38 u39 u40 u41 u42 u43 u44 u45 u46 u47 u48 u49 u50 u51 u52 u53 u54 u55 u56 u57 u58 u59 u60 u61 u62 u63 u64 u65 u66 u67 u68 u69 u70 u71 u72 u73 u74 u75 u76 u77 u78 u79 u80 u81 u82 u83 u84 u85 u86 u87 u88 u89 u90 u91 u92 u93 u94 u95 u96 u97 u98 u99 u100 u101 u102 u103 u104 u105 u106 u107 u108 u109 u110 u111 u112 u113 u114 u115 u116 u117 u118 u119 u120 u121 u122 u123 u124 u125 u126 u127 u128 u129 u130 u131 u132 u133 u134 u135 u136 u137 u138 u139 u140 u141 u142 u143 u144 u145 u146 u147 u148 u149 u150 u151 u152 u153 u154 u155 u156 u157 u158 u159 u160 u161 u162 u163 u164 u165 u166 u167 u168 u169 u170 u171 u172 u173 u174 u175 u176 u177 u178 u179 u180 u181 u182 u183 u184 : Value} (HW : Aside0 (RefW w wr v0 v1 v7 ps qs (byS os) (fun _ => True))) (HL : Aside0 ((byS os).length < 2199023255552)) (HP : Aside0 ((∀ o ∈ ps, okR1 o = true) ∧ (∀ o ∈ qs, okR1 o = true) ∧ ps.length + qs.length ≤ 1099511627776)) (HF : Aside0 (x = farL ps ∧ y = farL qs)) (HNE : Aside0 (ps.length + qs.length ≠ 0)) (HX : Aside0 ((x.f0 = 1 ∨ x.f0 = 2 ∨ x.f0 = 4) ∧ (y.f0 = 1 ∨ y.f0 = 2 ∨ y.f0 = 3)))
  (HK : Aside0 (noneL x y e = false → (∀ (v0 v1 v7 : Value) (b e' : Bool) (u4 u5 u6 u10 u11 u12 u13 u14 u15 u16 u17 u18 u19 u20 u21 u22 u23 u24 u25 u26 u27 u28 u29 u30 u31 u32 u33 u34 u35 u36 u37 u38 u39 u40 u41 u42 u43 u44 u45 u46 u47 u48 u49 u50 u51 u52 u53 u54 u55 u56 u57 u58 u59 u60 u61 u62 u63 u64 u65 u66 u67 u68 u69 u70 u71 u72 u73 u74 u75 u76 u77 u78 u79 u80 u81 u82 u83 u84 u85 u86 u87 u88 u89 u90 u91 u92 u93 u94 u95 u96 u97 u98 u99 u100 u101 u102 u103 u104 u105 u106 u107 u108 u109 u110 u111 u112 u113 u114 u115 u116 u117 u118 u119 u120 u121 u122 u123 u124 u125 u126 u127 u128 u129 u130 u131 u132 u133 u134 u135 u136 u137 u138 u139 u140 u141 u142 u143 u144 u145 u146 u147 u148 u149 u150 u151 u152 u153 u154 u155 u156 u157 u158 u159 u160 u161 u162 u163 u164 u165 u166 u167 u168 u169 u170 u171 u172 u173 u174 u175 u176 u177 u178 u179 u180 u181 u182 u183 u184 : Value) (w' : World), RefW w w' v0 v1 v7 (dropL ps (lineL x y).2.1) (dropL qs (lineL x y).2.1) (byS (os ++ [(lineL x y).2.2])) (fun _ => True) → b = metS (os ++ [(lineL x y).2.2]) → e' = opnB (lineL x y).1 → K .normal ⟨#[v0, v1, undef, undef, u4, u5, u6, v7, .bool b, .bool e', u10, u11, u12, u13, u14, u15, u16, u17, u18, u19, u20, u21, u22, u23, u24, u25, u26, u27, u28, u29, u30, u31, u32, u33, u34, u35, u36, u37, u38, u39, u40, u41, u42, u43, u44, u45, u46, u47, u48, u49, u50, u51, u52, u53, u54, u55, u56, u57, u58, u59, u60, u61, u62, u63, u64, u65, u66, u67, u68, u69, u70, u71, u72, u73, u74, u75, u76, u77, u78, u79, u80, u81, u82, u83, u84, u85, u86, u87, u88, u89, u90, u91, u92, u93, u94, u95, u96, u97, u98, u99, u100, u101, u102, u103, u104, u105, u106, u107, u108, u109, u110, u111, u112, u113, u114, u115, u116, u117, u118, u119, u120, u121, u122, u123, u124, u125, u126, u127, u128, u129, u130, u131, u132, u133, u134, u135, u136, u137, u138, u139, u140, u141, u142, u143, u144, u145, u146, u147, u148, u149, u150, u151, u152, u153, u154, u155, u156, u157, u158, u159, u160, u161, u162, u163, u164, u165, u166, u167, u168, u169, u170, u171, u172, u173, u174, u175, u176, u177, u178, u179, u180, u181, u182, u183, u184, undef, undef], []⟩ w')))
  (HR : Aside0 (noneL x y e = true → ∀ (u0 u1 u7 u8 u9 u10 u11 u12 u13 u14 u15 u16 u17 u18 u19 u20 u21 u22 u23 u24 u25 u26 u27 u28 u29 u30 u31 u32 u33 u34 u35 u36 u37 u38 u39 u40 u41 u42 u43 u44 u45 u46 u47 u48 u49 u50 u51 u52 u53 u54 u55 u56 u57 u58 u59 u60 u61 u62 u63 u64 u65 u66 u67 u68 u69 u70 u71 u72 u73 u74 u75 u76 u77 u78 u79 u80 u81 u82 u83 u84 u85 u86 u87 u88 u89 u90 u91 u92 u93 u94 u95 u96 u97 u98 u99 u100 u101 u102 u103 u104 u105 u106 u107 u108 u109 u110 u111 u112 u113 u114 u115 u116 u117 u118 u119 u120 u121 u122 u123 u124 u125 u126 u127 u128 u129 u130 u131 u132 u133 u134 u135 u136 u137 u138 u139 u140 u141 u142 u143 u144 u145 u146 u147 u148 u149 u150 u151 u152 u153 u154 u155 u156 u157 u158 u159 u160 u161 u162 u163 u164 u165 u166 u167 u168 u169 u170 u171 u172 u173 u174 u175 u176 u177 u178 u179 u180 u181 u182 u183 u184 : Value) (w' : World), Below w.heap.size w w' → K .ret ⟨#[u0, u1, undef, undef, .slice none 0 0, .bool false, .bool false, u7, u8, u9, u10, u11, u12, u13, u14, u15, u16, u17, u18, u19, u20, u21, u22, u23, u24, u25, u26, u27, u28, u29, u30, u31, u32, u33, u34, u35, u36, u37, u38, u39, u40, u41, u42, u43, u44, u45, u46, u47, u48, u49, u50, u51, u52, u53, u54, u55, u56, u57, u58, u59, u60, u61, u62, u63, u64, u65, u66, u67, u68, u69, u70, u71, u72, u73, u74, u75, u76, u77, u78, u79, u80, u81, u82, u83, u84, u85, u86, u87, u88, u89, u90, u91, u92, u93, u94, u95, u96, u97, u98, u99, u100, u101, u102, u103, u104, u105, u106, u107, u108, u109, u110, u111, u112, u113, u114, u115, u116, u117, u118, u119, u120, u121, u122, u123, u124, u125, u126, u127, u128, u129, u130, u131, u132, u133, u134, u135, u136, u137, u138, u139, u140, u141, u142, u143, u144, u145, u146, u147, u148, u149, u150, u151, u152, u153, u154, u155, u156, u157, u158, u159, u160, u161, u162, u163, u164, u165, u166, u167, u168, u169, u170, u171, u172, u173, u174, u175, u176, u177, u178, u179, u180, u181, u182, u183, u184, undef, undef], []⟩ w')) :
  Code.wp Tryd.prog refLoop K ⟨#[v0, v1, undef, undef, u4, u5, u6, v7, .bool (metS os), .bool e, u10, u11, u12, u13, u14, u15, u16, u17, u18, u19, u20, u21, u22, u23, u24, u25, u26, u27, u28, u29, u30, u31, u32, u33, u34, u35, u36, u37, u38, u39, u40, u41, u42, u43, u44, u45, u46, u47, u48, u49, u50, u51, u52, u53, u54, u55, u56, u57, u58, u59, u60, u61, u62, u63, u64, u65, u66, u67, u68, u69, u70, u71, u72, u73, u74, u75, u76, u77, u78, u79, u80, u81, u82, u83, u84, u85, u86, u87, u88, u89, u90, u91, u92, u93, u94, u95, u96, u97, u98, u99, u100, u101, u102, u103, u104, u105, u106, u107, u108, u109, u110, u111, u112, u113, u114, u115, u116, u117, u118, u119, u120, u121, u122, u123, u124, u125, u126, u127, u128, u129, u130, u131, u132, u133, u134, u135, u136, u137, u138, u139, u140, u141, u142, u143, u144, u145, u146, u147, u148, u149, u150, u151, u152, u153, u154, u155, u156, u157, u158, u159, u160, u161, u162, u163, u164, u165, u166, u167, u168, u169, u170, u171, u172, u173, u174, u175, u176, u177, u178, u179, u180, u181, u182, u183, u184, undef, undef], []⟩ wr := by
 have HXT := Aside0.mk (show (x.f0 = 1 ↔ x.f2 = ⟨#[]⟩) ∧ x.f2.size < 1073741824 ∧ (x.f0 = 1 → 1 ≤ x.f1 ∧ x.f1 ≤ 1099511627776) from by rw [HF.out.1]; exact okR_far HP.out.1)
 have HYT := Aside0.mk (show (y.f0 = 1 ↔ y.f2 = ⟨#[]⟩) ∧ y.f2.size < 1073741824 ∧ (y.f0 = 1 → 1 ≤ y.f1 ∧ y.f1 ≤ 1099511627776) from by rw [HF.out.2]; exact okR_far HP.out.2.1)
 conv => arg 2; whnf
 rcases ps with _ | ⟨o, r⟩ <;> rcases qs with _ | ⟨o2, r2⟩
 ·skip
  exact absurd rfl HNE.out
 ·skip
  obtain rfl : x = zFar := HF.out.1
  obtain ⟨Ap, cp, rfl⟩ := Kd.V_slice HW.out.2.1
  obtain rfl : y = o2 := HF.out.2
  obtain ⟨bd, cap2, Ay, cy, m2, hm20, hm2, rfl, z0, z1, z2, hx0, hx1, hx2⟩ := head_v HW.out.2.2.1
  clear hx0 hx1 hx2 Ay cy
  have k0 : ((0 : Int) < (m2 : Int)) = True := eq_true (by omega)
  have k1 : (0 < m2) = True := eq_true hm20
  have dy : (y.f0 == 4) = false := beq_eq_false_iff_ne.mpr (by have := HX.out.2; omega)
  clear hm2 hm20
  go_upto_region 12 with (first | ((with_reducible refine gate_dst (N := 10) rfl ?_); refine box_event ?hg (N := 10) ?hd (cs := #[.int .i64 0, .int .i64 0, .string (⟨#[]⟩ : ByteArray)]) (t := 32) ?hr ?_; (case hd => rfl); (case hg => rfl); (case hr => first | (go_simp; done) | (go_simp; rfl)); intro gx hg_ w3_ hbox hb; have q0 : w3_.cell? ⟨gx, 0, none⟩ = some (.int .i64 0) := (blk_cell hbox 0).trans rfl; have q1 : w3_.cell? ⟨gx, 1, none⟩ = some (.int .i64 0) := (blk_cell hbox 1).trans rfl; have q2 : w3_.cell? ⟨gx, 2, none⟩ = some (.string (⟨#[]⟩ : ByteArray)) := (blk_cell hbox 2).trans rfl; have f0 := blk_frozen hbox 0; have f1 := blk_frozen hbox 1; have f2 := blk_frozen hbox 2; have HB1 := Aside0.mk (And.intro ((HW.out.new gx (Nat.le_of_eq hg_.symm)).below hb) (And.intro hbox (show w.heap.size ≤ gx by rw [hg_]; exact below_size HW.out.1))); clear hg_ hbox hb))
  have h1 : RefW w (((w3_.setCell ⟨gx, 0, none⟩ (.int .i64 1)).setCell ⟨gx, 1, none⟩ (.int .i64 1099511627776)).setCell ⟨gx, 2, none⟩ (.string ⟨#[]⟩)) (.slice Ap 0 cp) (.slice (some bd) m2 cap2) v7 [] (y :: r2) (byS os) (fun k => True ∧ k ≠ gx) ∧ (((w3_.setCell ⟨gx, 0, none⟩ (.int .i64 1)).setCell ⟨gx, 1, none⟩ (.int .i64 1099511627776)).setCell ⟨gx, 2, none⟩ (.string ⟨#[]⟩)).heap[gx]? = some (.cells #[.int .i64 1, .int .i64 1099511627776, .string ⟨#[]⟩] 32 (0, 0)) ∧ w.heap.size ≤ gx := by
   have b1 := blk_set HB1.out.2.1 0 (.int .i64 1)
   have b2 := blk_set b1 1 (.int .i64 1099511627776)
   have b3 := blk_set b2 2 (.string ⟨#[]⟩)
   exact ⟨RefW.set (RefW.set (RefW.set HB1.out.1 HB1.out.2.2 (fun k hk => hk.2) HB1.out.2.1 0 _) HB1.out.2.2 (fun k hk => hk.2) b1 1 _) HB1.out.2.2 (fun k hk => hk.2) b2 2 _, by simpa using b3, HB1.out.2.2⟩
  clear HB1 q0 q1 q2 f0 f1 f2 HW z0 z1 z2
  generalize (((w3_.setCell ⟨gx, 0, none⟩ (.int .i64 1)).setCell ⟨gx, 1, none⟩ (.int .i64 1099511627776)).setCell ⟨gx, 2, none⟩ (.string ⟨#[]⟩)) = w4_ at h1 ⊢
  have a0 : w4_.cell? ⟨gx, 0, none⟩ = some (.int .i64 1) := (blk_cell h1.2.1 0).trans rfl
  have a1 : w4_.cell? ⟨gx, 1, none⟩ = some (.int .i64 1099511627776) := (blk_cell h1.2.1 1).trans rfl
  have a2 : w4_.cell? ⟨gx, 2, none⟩ = some (.string (⟨#[]⟩ : ByteArray)) := (blk_cell h1.2.1 2).trans rfl
  have HB1 := Aside0.mk h1
  clear h1
  go_upto_region 13 with (first | ((with_reducible refine gate_dst (N := 11) rfl ?_); refine box_event ?hg (N := 11) ?hd (cs := #[.int .i64 0, .int .i64 0, .string (⟨#[]⟩ : ByteArray)]) (t := 32) ?hr ?_; (case hd => rfl); (case hg => rfl); (case hr => first | (go_simp; done) | (go_simp; rfl)); intro gy hg_ w5_ hbox hb; have q0 : w5_.cell? ⟨gy, 0, none⟩ = some (.int .i64 0) := (blk_cell hbox 0).trans rfl; have q1 : w5_.cell? ⟨gy, 1, none⟩ = some (.int .i64 0) := (blk_cell hbox 1).trans rfl; have q2 : w5_.cell? ⟨gy, 2, none⟩ = some (.string (⟨#[]⟩ : ByteArray)) := (blk_cell hbox 2).trans rfl; have f0 := blk_frozen hbox 0; have f1 := blk_frozen hbox 1; have f2 := blk_frozen hbox 2; have HB2 := Aside0.mk (And.intro ((HB1.out.1.new gy (Nat.le_of_eq hg_.symm)).below hb) (And.intro (blk_below HB1.out.2.1 hb) (And.intro hbox (And.intro (show gx ≠ gy by have := blk_lt HB1.out.2.1; omega) (And.intro HB1.out.2.2 (show w.heap.size ≤ gy by rw [hg_]; exact below_size HB1.out.1.1)))))); clear hg_ hbox hb))
  have h2 : RefS w w5_ (.slice Ap 0 cp) (.slice (some bd) m2 cap2) v7 [] (y :: r2) (byS os) gx gy zFar ⟨0, 0, ⟨#[]⟩⟩ := ⟨HB2.out.1.mono (fun k hk => ⟨hk.1.2, hk.2⟩), HB2.out.2⟩
  have HS := Aside0.mk (RefS.mk1 (y := zFar) h2)
  clear h2 HB2 HB1 q0 q1 q2 f0 f1 f2 a0 a1 a2
  have ew : (((w5_.setCell ⟨gy, 0, none⟩ (.int .i64 zFar.f0)).setCell ⟨gy, 1, none⟩ (.int .i64 zFar.f1)).setCell ⟨gy, 2, none⟩ (.string zFar.f2)) = (((w5_.setCell ⟨gy, 0, none⟩ (.int .i64 1)).setCell ⟨gy, 1, none⟩ (.int .i64 1099511627776)).setCell ⟨gy, 2, none⟩ (.string ⟨#[]⟩)) := rfl
  rw [ew] at HS
  clear ew
  generalize (((w5_.setCell ⟨gy, 0, none⟩ (.int .i64 1)).setCell ⟨gy, 1, none⟩ (.int .i64 1099511627776)).setCell ⟨gy, 2, none⟩ (.string ⟨#[]⟩)) = w6_ at HS ⊢
  have q0 : w6_.cell? ⟨gy, 0, none⟩ = some (.int .i64 1) := (blk_cell HS.out.2.2.1 0).trans rfl
  have f0 := blk_frozen HS.out.2.2.1 0
  have q1 : w6_.cell? ⟨gy, 1, none⟩ = some (.int .i64 1099511627776) := (blk_cell HS.out.2.2.1 1).trans rfl
  have f1 := blk_frozen HS.out.2.2.1 1
  have q2 : w6_.cell? ⟨gy, 2, none⟩ = some (.string (⟨#[]⟩ : ByteArray)) := (blk_cell HS.out.2.2.1 2).trans rfl
  have f2 := blk_frozen HS.out.2.2.1 2
  obtain ⟨ad', cap', Ax, cx, m', hm0, hm, he, z0, z1, z2, hin, hx1, hx2⟩ := head_v HS.out.1.2.2.1
  clear hx1 hx2 Ax cx hm0 hm
  simp only [Value.slice.injEq, Option.some.injEq] at he
  obtain ⟨rfl, rfl, rfl⟩ := he
  have hn : bd.block ≠ gy := hin.1.2
  clear hin
  go_upto_region 999 with (first | ((with_reducible show Code.wp _ (Code.seq (Code.seq (Code.region 17 _ _) _) _) _ _ _); refine Aside0.out ?_))
  have HS1 := Aside0.mk (RefS.mk1 (y := y) HS.out)
  clear HS q0 q1 q2 f0 f1 f2 hn z0 z1 z2
  have HS := HS1
  clear HS1
  refine ⟨?_⟩
  exact refB w _ (Exit.inBlock 1 K) [] (y :: r2) os e gx gy _ _ HS HL HP HX HXT HYT HK HR
 ·skip
  obtain rfl : x = o := HF.out.1
  obtain ⟨ad, cap, Ax, cx, m, hm0, hm, rfl, y0, y1, y2, hx0, hx1, hx2⟩ := head_v HW.out.2.1
  clear hx0 hx1 hx2 Ax cx
  have i0 : ((0 : Int) < (m : Int)) = True := eq_true (by omega)
  have i1 : (0 < m) = True := eq_true hm0
  have dx : (x.f0 == 3) = false := beq_eq_false_iff_ne.mpr (by have := HX.out.1; omega)
  clear hm hm0
  obtain rfl : y = zFar := HF.out.2
  obtain ⟨Aq, cq, rfl⟩ := Kd.V_slice HW.out.2.2.1
  go_upto_region 12 with (first | ((with_reducible refine gate_dst (N := 10) rfl ?_); refine box_event ?hg (N := 10) ?hd (cs := #[.int .i64 0, .int .i64 0, .string (⟨#[]⟩ : ByteArray)]) (t := 32) ?hr ?_; (case hd => rfl); (case hg => rfl); (case hr => first | (go_simp; done) | (go_simp; rfl)); intro gx hg_ w3_ hbox hb; have q0 : w3_.cell? ⟨gx, 0, none⟩ = some (.int .i64 0) := (blk_cell hbox 0).trans rfl; have q1 : w3_.cell? ⟨gx, 1, none⟩ = some (.int .i64 0) := (blk_cell hbox 1).trans rfl; have q2 : w3_.cell? ⟨gx, 2, none⟩ = some (.string (⟨#[]⟩ : ByteArray)) := (blk_cell hbox 2).trans rfl; have f0 := blk_frozen hbox 0; have f1 := blk_frozen hbox 1; have f2 := blk_frozen hbox 2; have HB1 := Aside0.mk (And.intro ((HW.out.new gx (Nat.le_of_eq hg_.symm)).below hb) (And.intro hbox (show w.heap.size ≤ gx by rw [hg_]; exact below_size HW.out.1))); clear hg_ hbox hb))
  have h1 : RefW w (((w3_.setCell ⟨gx, 0, none⟩ (.int .i64 1)).setCell ⟨gx, 1, none⟩ (.int .i64 1099511627776)).setCell ⟨gx, 2, none⟩ (.string ⟨#[]⟩)) (.slice (some ad) m cap) (.slice Aq 0 cq) v7 (x :: r) [] (byS os) (fun k => True ∧ k ≠ gx) ∧ (((w3_.setCell ⟨gx, 0, none⟩ (.int .i64 1)).setCell ⟨gx, 1, none⟩ (.int .i64 1099511627776)).setCell ⟨gx, 2, none⟩ (.string ⟨#[]⟩)).heap[gx]? = some (.cells #[.int .i64 1, .int .i64 1099511627776, .string ⟨#[]⟩] 32 (0, 0)) ∧ w.heap.size ≤ gx := by
   have b1 := blk_set HB1.out.2.1 0 (.int .i64 1)
   have b2 := blk_set b1 1 (.int .i64 1099511627776)
   have b3 := blk_set b2 2 (.string ⟨#[]⟩)
   exact ⟨RefW.set (RefW.set (RefW.set HB1.out.1 HB1.out.2.2 (fun k hk => hk.2) HB1.out.2.1 0 _) HB1.out.2.2 (fun k hk => hk.2) b1 1 _) HB1.out.2.2 (fun k hk => hk.2) b2 2 _, by simpa using b3, HB1.out.2.2⟩
  clear HB1 q0 q1 q2 f0 f1 f2 HW y0 y1 y2
  generalize (((w3_.setCell ⟨gx, 0, none⟩ (.int .i64 1)).setCell ⟨gx, 1, none⟩ (.int .i64 1099511627776)).setCell ⟨gx, 2, none⟩ (.string ⟨#[]⟩)) = w4_ at h1 ⊢
  have a0 : w4_.cell? ⟨gx, 0, none⟩ = some (.int .i64 1) := (blk_cell h1.2.1 0).trans rfl
  have a1 : w4_.cell? ⟨gx, 1, none⟩ = some (.int .i64 1099511627776) := (blk_cell h1.2.1 1).trans rfl
  have a2 : w4_.cell? ⟨gx, 2, none⟩ = some (.string (⟨#[]⟩ : ByteArray)) := (blk_cell h1.2.1 2).trans rfl
  have HB1 := Aside0.mk h1
  clear h1
  go_upto_region 13 with (first | ((with_reducible refine gate_dst (N := 11) rfl ?_); refine box_event ?hg (N := 11) ?hd (cs := #[.int .i64 0, .int .i64 0, .string (⟨#[]⟩ : ByteArray)]) (t := 32) ?hr ?_; (case hd => rfl); (case hg => rfl); (case hr => first | (go_simp; done) | (go_simp; rfl)); intro gy hg_ w5_ hbox hb; have q0 : w5_.cell? ⟨gy, 0, none⟩ = some (.int .i64 0) := (blk_cell hbox 0).trans rfl; have q1 : w5_.cell? ⟨gy, 1, none⟩ = some (.int .i64 0) := (blk_cell hbox 1).trans rfl; have q2 : w5_.cell? ⟨gy, 2, none⟩ = some (.string (⟨#[]⟩ : ByteArray)) := (blk_cell hbox 2).trans rfl; have f0 := blk_frozen hbox 0; have f1 := blk_frozen hbox 1; have f2 := blk_frozen hbox 2; have HB2 := Aside0.mk (And.intro ((HB1.out.1.new gy (Nat.le_of_eq hg_.symm)).below hb) (And.intro (blk_below HB1.out.2.1 hb) (And.intro hbox (And.intro (show gx ≠ gy by have := blk_lt HB1.out.2.1; omega) (And.intro HB1.out.2.2 (show w.heap.size ≤ gy by rw [hg_]; exact below_size HB1.out.1.1)))))); clear hg_ hbox hb))
  have h2 : RefS w w5_ (.slice (some ad) m cap) (.slice Aq 0 cq) v7 (x :: r) [] (byS os) gx gy zFar ⟨0, 0, ⟨#[]⟩⟩ := ⟨HB2.out.1.mono (fun k hk => ⟨hk.1.2, hk.2⟩), HB2.out.2⟩
  have HS := Aside0.mk (RefS.mk1 (y := zFar) h2)
  clear h2 HB2 HB1 q0 q1 q2 f0 f1 f2 a0 a1 a2
  have ew : (((w5_.setCell ⟨gy, 0, none⟩ (.int .i64 zFar.f0)).setCell ⟨gy, 1, none⟩ (.int .i64 zFar.f1)).setCell ⟨gy, 2, none⟩ (.string zFar.f2)) = (((w5_.setCell ⟨gy, 0, none⟩ (.int .i64 1)).setCell ⟨gy, 1, none⟩ (.int .i64 1099511627776)).setCell ⟨gy, 2, none⟩ (.string ⟨#[]⟩)) := rfl
  rw [ew] at HS
  clear ew
  generalize (((w5_.setCell ⟨gy, 0, none⟩ (.int .i64 1)).setCell ⟨gy, 1, none⟩ (.int .i64 1099511627776)).setCell ⟨gy, 2, none⟩ (.string ⟨#[]⟩)) = w6_ at HS ⊢
  have q0 : w6_.cell? ⟨gx, 0, none⟩ = some (.int .i64 1) := (blk_cell HS.out.2.1 0).trans rfl
  have f0 := blk_frozen HS.out.2.1 0
  have q1 : w6_.cell? ⟨gx, 1, none⟩ = some (.int .i64 1099511627776) := (blk_cell HS.out.2.1 1).trans rfl
  have f1 := blk_frozen HS.out.2.1 1
  have q2 : w6_.cell? ⟨gx, 2, none⟩ = some (.string (⟨#[]⟩ : ByteArray)) := (blk_cell HS.out.2.1 2).trans rfl
  have f2 := blk_frozen HS.out.2.1 2
  obtain ⟨ad', cap', Ax, cx, m', hm0, hm, he, y0, y1, y2, hin, hx1, hx2⟩ := head_v HS.out.1.2.1
  clear hx1 hx2 Ax cx hm0 hm
  simp only [Value.slice.injEq, Option.some.injEq] at he
  obtain ⟨rfl, rfl, rfl⟩ := he
  have hn : ad.block ≠ gx := hin.1.1
  clear hin
  go_upto_region 15 with fail
  have HS1 := Aside0.mk (RefS.mk0 (x := x) HS.out)
  clear HS q0 q1 q2 f0 f1 f2 hn y0 y1 y2
  have HS := HS1
  clear HS1
  generalize (((w6_.setCell ⟨gx, 0, none⟩ (.int .i64 x.f0)).setCell ⟨gx, 1, none⟩ (.int .i64 x.f1)).setCell ⟨gx, 2, none⟩ (.string x.f2)) = w7_ at HS ⊢
  go_upto_region 999 with (first | ((with_reducible show Code.wp _ (Code.seq (Code.seq (Code.region 17 _ _) _) _) _ _ _); refine Aside0.out ?_))
  refine ⟨?_⟩
  exact refB w _ (Exit.inBlock 1 K) (x :: r) [] os e gx gy _ _ HS HL HP HX HXT HYT HK HR
 ·skip
  obtain rfl : x = o := HF.out.1
  obtain ⟨ad, cap, Ax, cx, m, hm0, hm, rfl, y0, y1, y2, hx0, hx1, hx2⟩ := head_v HW.out.2.1
  clear hx0 hx1 hx2 Ax cx
  have i0 : ((0 : Int) < (m : Int)) = True := eq_true (by omega)
  have i1 : (0 < m) = True := eq_true hm0
  have dx : (x.f0 == 3) = false := beq_eq_false_iff_ne.mpr (by have := HX.out.1; omega)
  clear hm hm0
  obtain rfl : y = o2 := HF.out.2
  obtain ⟨bd, cap2, Ay, cy, m2, hm20, hm2, rfl, z0, z1, z2, hx0, hx1, hx2⟩ := head_v HW.out.2.2.1
  clear hx0 hx1 hx2 Ay cy
  have k0 : ((0 : Int) < (m2 : Int)) = True := eq_true (by omega)
  have k1 : (0 < m2) = True := eq_true hm20
  have dy : (y.f0 == 4) = false := beq_eq_false_iff_ne.mpr (by have := HX.out.2; omega)
  clear hm2 hm20
  go_upto_region 12 with (first | ((with_reducible refine gate_dst (N := 10) rfl ?_); refine box_event ?hg (N := 10) ?hd (cs := #[.int .i64 0, .int .i64 0, .string (⟨#[]⟩ : ByteArray)]) (t := 32) ?hr ?_; (case hd => rfl); (case hg => rfl); (case hr => first | (go_simp; done) | (go_simp; rfl)); intro gx hg_ w3_ hbox hb; have q0 : w3_.cell? ⟨gx, 0, none⟩ = some (.int .i64 0) := (blk_cell hbox 0).trans rfl; have q1 : w3_.cell? ⟨gx, 1, none⟩ = some (.int .i64 0) := (blk_cell hbox 1).trans rfl; have q2 : w3_.cell? ⟨gx, 2, none⟩ = some (.string (⟨#[]⟩ : ByteArray)) := (blk_cell hbox 2).trans rfl; have f0 := blk_frozen hbox 0; have f1 := blk_frozen hbox 1; have f2 := blk_frozen hbox 2; have HB1 := Aside0.mk (And.intro ((HW.out.new gx (Nat.le_of_eq hg_.symm)).below hb) (And.intro hbox (show w.heap.size ≤ gx by rw [hg_]; exact below_size HW.out.1))); clear hg_ hbox hb))
  have h1 : RefW w (((w3_.setCell ⟨gx, 0, none⟩ (.int .i64 1)).setCell ⟨gx, 1, none⟩ (.int .i64 1099511627776)).setCell ⟨gx, 2, none⟩ (.string ⟨#[]⟩)) (.slice (some ad) m cap) (.slice (some bd) m2 cap2) v7 (x :: r) (y :: r2) (byS os) (fun k => True ∧ k ≠ gx) ∧ (((w3_.setCell ⟨gx, 0, none⟩ (.int .i64 1)).setCell ⟨gx, 1, none⟩ (.int .i64 1099511627776)).setCell ⟨gx, 2, none⟩ (.string ⟨#[]⟩)).heap[gx]? = some (.cells #[.int .i64 1, .int .i64 1099511627776, .string ⟨#[]⟩] 32 (0, 0)) ∧ w.heap.size ≤ gx := by
   have b1 := blk_set HB1.out.2.1 0 (.int .i64 1)
   have b2 := blk_set b1 1 (.int .i64 1099511627776)
   have b3 := blk_set b2 2 (.string ⟨#[]⟩)
   exact ⟨RefW.set (RefW.set (RefW.set HB1.out.1 HB1.out.2.2 (fun k hk => hk.2) HB1.out.2.1 0 _) HB1.out.2.2 (fun k hk => hk.2) b1 1 _) HB1.out.2.2 (fun k hk => hk.2) b2 2 _, by simpa using b3, HB1.out.2.2⟩
  clear HB1 q0 q1 q2 f0 f1 f2 HW y0 y1 y2 z0 z1 z2
  generalize (((w3_.setCell ⟨gx, 0, none⟩ (.int .i64 1)).setCell ⟨gx, 1, none⟩ (.int .i64 1099511627776)).setCell ⟨gx, 2, none⟩ (.string ⟨#[]⟩)) = w4_ at h1 ⊢
  have a0 : w4_.cell? ⟨gx, 0, none⟩ = some (.int .i64 1) := (blk_cell h1.2.1 0).trans rfl
  have a1 : w4_.cell? ⟨gx, 1, none⟩ = some (.int .i64 1099511627776) := (blk_cell h1.2.1 1).trans rfl
  have a2 : w4_.cell? ⟨gx, 2, none⟩ = some (.string (⟨#[]⟩ : ByteArray)) := (blk_cell h1.2.1 2).trans rfl
  have HB1 := Aside0.mk h1
  clear h1
  go_upto_region 13 with (first | ((with_reducible refine gate_dst (N := 11) rfl ?_); refine box_event ?hg (N := 11) ?hd (cs := #[.int .i64 0, .int .i64 0, .string (⟨#[]⟩ : ByteArray)]) (t := 32) ?hr ?_; (case hd => rfl); (case hg => rfl); (case hr => first | (go_simp; done) | (go_simp; rfl)); intro gy hg_ w5_ hbox hb; have q0 : w5_.cell? ⟨gy, 0, none⟩ = some (.int .i64 0) := (blk_cell hbox 0).trans rfl; have q1 : w5_.cell? ⟨gy, 1, none⟩ = some (.int .i64 0) := (blk_cell hbox 1).trans rfl; have q2 : w5_.cell? ⟨gy, 2, none⟩ = some (.string (⟨#[]⟩ : ByteArray)) := (blk_cell hbox 2).trans rfl; have f0 := blk_frozen hbox 0; have f1 := blk_frozen hbox 1; have f2 := blk_frozen hbox 2; have HB2 := Aside0.mk (And.intro ((HB1.out.1.new gy (Nat.le_of_eq hg_.symm)).below hb) (And.intro (blk_below HB1.out.2.1 hb) (And.intro hbox (And.intro (show gx ≠ gy by have := blk_lt HB1.out.2.1; omega) (And.intro HB1.out.2.2 (show w.heap.size ≤ gy by rw [hg_]; exact below_size HB1.out.1.1)))))); clear hg_ hbox hb))
  have h2 : RefS w w5_ (.slice (some ad) m cap) (.slice (some bd) m2 cap2) v7 (x :: r) (y :: r2) (byS os) gx gy zFar ⟨0, 0, ⟨#[]⟩⟩ := ⟨HB2.out.1.mono (fun k hk => ⟨hk.1.2, hk.2⟩), HB2.out.2⟩
  have HS := Aside0.mk (RefS.mk1 (y := zFar) h2)
  clear h2 HB2 HB1 q0 q1 q2 f0 f1 f2 a0 a1 a2
  have ew : (((w5_.setCell ⟨gy, 0, none⟩ (.int .i64 zFar.f0)).setCell ⟨gy, 1, none⟩ (.int .i64 zFar.f1)).setCell ⟨gy, 2, none⟩ (.string zFar.f2)) = (((w5_.setCell ⟨gy, 0, none⟩ (.int .i64 1)).setCell ⟨gy, 1, none⟩ (.int .i64 1099511627776)).setCell ⟨gy, 2, none⟩ (.string ⟨#[]⟩)) := rfl
  rw [ew] at HS
  clear ew
  generalize (((w5_.setCell ⟨gy, 0, none⟩ (.int .i64 1)).setCell ⟨gy, 1, none⟩ (.int .i64 1099511627776)).setCell ⟨gy, 2, none⟩ (.string ⟨#[]⟩)) = w6_ at HS ⊢
  have q0 : w6_.cell? ⟨gx, 0, none⟩ = some (.int .i64 1) := (blk_cell HS.out.2.1 0).trans rfl
  have f0 := blk_frozen HS.out.2.1 0
  have q1 : w6_.cell? ⟨gx, 1, none⟩ = some (.int .i64 1099511627776) := (blk_cell HS.out.2.1 1).trans rfl
  have f1 := blk_frozen HS.out.2.1 1
  have q2 : w6_.cell? ⟨gx, 2, none⟩ = some (.string (⟨#[]⟩ : ByteArray)) := (blk_cell HS.out.2.1 2).trans rfl
  have f2 := blk_frozen HS.out.2.1 2
  obtain ⟨ad', cap', Ax, cx, m', hm0, hm, he, y0, y1, y2, hin, hx1, hx2⟩ := head_v HS.out.1.2.1
  clear hx1 hx2 Ax cx hm0 hm
  simp only [Value.slice.injEq, Option.some.injEq] at he
  obtain ⟨rfl, rfl, rfl⟩ := he
  have hn : ad.block ≠ gx := hin.1.1
  clear hin
  go_upto_region 15 with fail
  have HS1 := Aside0.mk (RefS.mk0 (x := x) HS.out)
  clear HS q0 q1 q2 f0 f1 f2 hn y0 y1 y2
  have HS := HS1
  clear HS1
  generalize (((w6_.setCell ⟨gx, 0, none⟩ (.int .i64 x.f0)).setCell ⟨gx, 1, none⟩ (.int .i64 x.f1)).setCell ⟨gx, 2, none⟩ (.string x.f2)) = w7_ at HS ⊢
  have q0 : w7_.cell? ⟨gy, 0, none⟩ = some (.int .i64 1) := (blk_cell HS.out.2.2.1 0).trans rfl
  have f0 := blk_frozen HS.out.2.2.1 0
  have q1 : w7_.cell? ⟨gy, 1, none⟩ = some (.int .i64 1099511627776) := (blk_cell HS.out.2.2.1 1).trans rfl
  have f1 := blk_frozen HS.out.2.2.1 1
  have q2 : w7_.cell? ⟨gy, 2, none⟩ = some (.string (⟨#[]⟩ : ByteArray)) := (blk_cell HS.out.2.2.1 2).trans rfl
  have f2 := blk_frozen HS.out.2.2.1 2
  obtain ⟨ad', cap', Ax, cx, m', hm0, hm, he, z0, z1, z2, hin, hx1, hx2⟩ := head_v HS.out.1.2.2.1
  clear hx1 hx2 Ax cx hm0 hm
  simp only [Value.slice.injEq, Option.some.injEq] at he
  obtain ⟨rfl, rfl, rfl⟩ := he
  have hn : bd.block ≠ gy := hin.1.2
  clear hin
  go_upto_region 999 with (first | ((with_reducible show Code.wp _ (Code.seq (Code.seq (Code.region 17 _ _) _) _) _ _ _); refine Aside0.out ?_))
  have HS1 := Aside0.mk (RefS.mk1 (y := y) HS.out)
  clear HS q0 q1 q2 f0 f1 f2 hn z0 z1 z2
  have HS := HS1
  clear HS1
  refine ⟨?_⟩
  exact refB w _ (Exit.inBlock 1 K) (x :: r) (y :: r2) os e gx gy _ _ HS HL HP HX HXT HYT HK HR
end Go.Proofs.YtkiklmmpflndbaaDoor.P
