/- Own and printed texts that the theorem of WitnessBoth reaches, put together. -/
import Derived.Test.YtkiklmmpflndbaaDoorqWitnessBoth14
set_option linter.unusedVariables false
set_option linter.unusedSimpArgs false
namespace Go.Proofs.YtkiklmmpflndbaaDoor.P
open Go.RowKit Go.Proofs.YtkiklmmpflndbaaDoorW.PrintWords Go.Proofs.YtkiklmmpflndbaaDoorW.PrintLast Go.Proofs.YtkiklmmpflndbaaDoorW.PrintMore
set_option maxHeartbeats 40000000 in
set_option maxRecDepth 100000 in
theorem refC (w wx : World) (K : Exit → Act → World → Prop) {v0 v1 v7 v9 : Value} (ps qs : List Op) (os : List Step) (gx gy : Nat) (x y : Op) (n : Int) {u4 u5 u6 u13 u14 u15 u16 u17 u18 u19 u20 u21 u22 u23 u24 u25 u26 u27 u28 u29 u30 u31 u32 u33 u34 u35 u36 u37 u38 u39 u40 u41 u42 u43 u44 u45 u46 u47 u48 u49 u50 u51 u52 u53 u54 u55 u56 u57 u58 u59 u60 u61 u62 u63 u64 u65 u66 u67 u68 u69 u70 u71 u72 u73 u74 u75 u76 u77 u78 u79 u80 u81 u82 u83 u84 u85 u86 u87 u88 u89 u90 u91 u92 u93 u94 u95 u96 u97 u98 u99 u100 u101 u102 u103 u104 u105 u106 u107 u108 u109 u110 u111 u112 u113 u114 u115 u116 u117 u118 u119 u120 u121 u122 u123 u124 u125 u126 u127 u128 u129 u130 u131 u132 u133 u134 u135 u136 u137 u138 u139 u140 u141 u142 u143 u144 u145 u146 u147 u148 u149 u150 u151 u152 u153 u154 u155 u156 u157 u158 u159 u160 u161 u162 u163 u164 u165 u166 u167 u168 u169 u170 u171 u172 u173 u174 u175 u176 u177 u178 u179 u180 u181 u182 u183 u184 : Value} (HS : Aside0 (RefS w wx v0 v1 v7 ps qs (byS os) gx gy x y)) (HL : Aside0 ((byS os).length < 2199023255552)) (HP : Aside0 ((∀ o ∈ ps, okR1 o = true) ∧ (∀ o ∈ qs, okR1 o = true) ∧ ps.length + qs.length ≤ 1099511627776)) (HN : Aside0 (n = (lineL x y).2.1)) (HX : Aside0 ((x.f0 = 1 ∨ x.f0 = 2 ∨ x.f0 = 4) ∧ (y.f0 = 1 ∨ y.f0 = 2 ∨ y.f0 = 3) ∧ (x.f0 = 1 → x.f2 = ⟨#[]⟩)))
  (HK : Aside0 (∀ (v0 v1 v7 : Value) (b : Bool) (u4 u5 u6 u10 u11 u12 u13 u14 u15 u16 u17 u18 u19 u20 u21 u22 u23 u24 u25 u26 u27 u28 u29 u30 u31 u32 u33 u34 u35 u36 u37 u38 u39 u40 u41 u42 u43 u44 u45 u46 u47 u48 u49 u50 u51 u52 u53 u54 u55 u56 u57 u58 u59 u60 u61 u62 u63 u64 u65 u66 u67 u68 u69 u70 u71 u72 u73 u74 u75 u76 u77 u78 u79 u80 u81 u82 u83 u84 u85 u86 u87 u88 u89 u90 u91 u92 u93 u94 u95 u96 u97 u98 u99 u100 u101 u102 u103 u104 u105 u106 u107 u108 u109 u110 u111 u112 u113 u114 u115 u116 u117 u118 u119 u120 u121 u122 u123 u124 u125 u126 u127 u128 u129 u130 u131 u132 u133 u134 u135 u136 u137 u138 u139 u140 u141 u142 u143 u144 u145 u146 u147 u148 u149 u150 u151 u152 u153 u154 u155 u156 u157 u158 u159 u160 u161 u162 u163 u164 u165 u166 u167 u168 u169 u170 u171 u172 u173 u174 u175 u176 u177 u178 u179 u180 u181 u182 u183 u184 : Value) (w' : World), RefW w w' v0 v1 v7 (dropL ps n) (dropL qs n) (byS (os ++ [(lineL x y).2.2])) (fun _ => True) → b = metS (os ++ [(lineL x y).2.2]) → K .normal ⟨#[v0, v1, undef, undef, u4, u5, u6, v7, .bool b, v9, u10, u11, u12, u13, u14, u15, u16, u17, u18, u19, u20, u21, u22, u23, u24, u25, u26, u27, u28, u29, u30, u31, u32, u33, u34, u35, u36, u37, u38, u39, u40, u41, u42, u43, u44, u45, u46, u47, u48, u49, u50, u51, u52, u53, u54, u55, u56, u57, u58, u59, u60, u61, u62, u63, u64, u65, u66, u67, u68, u69, u70, u71, u72, u73, u74, u75, u76, u77, u78, u79, u80, u81, u82, u83, u84, u85, u86, u87, u88, u89, u90, u91, u92, u93, u94, u95, u96, u97, u98, u99, u100, u101, u102, u103, u104, u105, u106, u107, u108, u109, u110, u111, u112, u113, u114, u115, u116, u117, u118, u119, u120, u121, u122, u123, u124, u125, u126, u127, u128, u129, u130, u131, u132, u133, u134, u135, u136, u137, u138, u139, u140, u141, u142, u143, u144, u145, u146, u147, u148, u149, u150, u151, u152, u153, u154, u155, u156, u157, u158, u159, u160, u161, u162, u163, u164, u165, u166, u167, u168, u169, u170, u171, u172, u173, u174, u175, u176, u177, u178, u179, u180, u181, u182, u183, u184, undef, undef], []⟩ w')) :
  Code.wp Tryd.prog (refRest 11) K ⟨#[v0, v1, undef, undef, u4, u5, u6, v7, .bool (metS os), v9, .pointer (some ⟨gx, 0, none⟩), .pointer (some ⟨gy, 0, none⟩), .int .i64 n, u13, u14, u15, u16, u17, u18, u19, u20, u21, u22, u23, u24, u25, u26, u27, u28, u29, u30, u31, u32, u33, u34, u35, u36, u37, u38, u39, u40, u41, u42, u43, u44, u45, u46, u47, u48, u49, u50, u51, u52, u53, u54, u55, u56, u57, u58, u59, u60, u61, u62, u63, u64, u65, u66, u67, u68, u69, u70, u71, u72, u73, u74, u75, u76, u77, u78, u79, u80, u81, u82, u83, u84, u85, u86, u87, u88, u89, u90, u91, u92, u93, u94, u95, u96, u97, u98, u99, u100, u101, u102, u103, u104, u105, u106, u107, u108, u109, u110, u111, u112, u113, u114, u115, u116, u117, u118, u119, u120, u121, u122, u123, u124, u125, u126, u127, u128, u129, u130, u131, u132, u133, u134, u135, u136, u137, u138, u139, u140, u141, u142, u143, u144, u145, u146, u147, u148, u149, u150, u151, u152, u153, u154, u155, u156, u157, u158, u159, u160, u161, u162, u163, u164, u165, u166, u167, u168, u169, u170, u171, u172, u173, u174, u175, u176, u177, u178, u179, u180, u181, u182, u183, u184, undef, undef], []⟩ wx := by
 have a0 : wx.cell? ⟨gx, 0, none⟩ = some (.int .i64 x.f0) := (blk_cell HS.out.2.1 0).trans rfl
 have a1 : wx.cell? ⟨gx, 1, none⟩ = some (.int .i64 x.f1) := (blk_cell HS.out.2.1 1).trans rfl
 have a2 : wx.cell? ⟨gx, 2, none⟩ = some (.string x.f2) := (blk_cell HS.out.2.1 2).trans rfl
 have b0 : wx.cell? ⟨gy, 0, none⟩ = some (.int .i64 y.f0) := (blk_cell HS.out.2.2.1 0).trans rfl
 have b1 : wx.cell? ⟨gy, 1, none⟩ = some (.int .i64 y.f1) := (blk_cell HS.out.2.2.1 1).trans rfl
 have b2 : wx.cell? ⟨gy, 2, none⟩ = some (.string y.f2) := (blk_cell HS.out.2.2.1 2).trans rfl
 conv => arg 2; whnf
 obtain ⟨hx, hy, hz⟩ := HX.out
 rcases hx with kx | kx | kx <;> rcases hy with ky | ky | ky
 ·skip
  have hn : n = min x.f1 y.f1 := by rw [HN.out]; simp [lineL, kx, ky]
  clear HN
  subst hn
  have tx1 : (x.f0 == 1) = true := beq_iff_eq.mpr kx
  have tx2 : (x.f0 == 2) = false := beq_eq_false_iff_ne.mpr (by omega)
  have tx3 : (x.f0 == 3) = false := beq_eq_false_iff_ne.mpr (by omega)
  have tx4 : (x.f0 == 4) = false := beq_eq_false_iff_ne.mpr (by omega)
  have ty1 : (y.f0 == 1) = true := beq_iff_eq.mpr ky
  have ty2 : (y.f0 == 2) = false := beq_eq_false_iff_ne.mpr (by omega)
  have ty3 : (y.f0 == 3) = false := beq_eq_false_iff_ne.mpr (by omega)
  have ty4 : (y.f0 == 4) = false := beq_eq_false_iff_ne.mpr (by omega)
  have HE := Aside0.mk (show lineL x y = (x.f2 ++ y.f2, min x.f1 y.f1, ⟨⟨1, min x.f1 y.f1, ⟨#[]⟩⟩, 0, false⟩) from by simp [lineL, kx, ky])
  clear kx ky
  go_upto_region 999 with (first | ((with_reducible refine gate_builtin (b := .append) (xs := #[.tmp 137, .tmp 141]) rfl ?_); (try (refine gate_guard (by rfl) ?_; dsimp only)); at_builtin; refine Kd.R_append kBy (w0 := w) w.heap.size rfl (.tmp 137) (.tmp 141) 46 61 (.agg #[(.int .i64 0), (.int .i64 0), (.string ⟨#[]⟩), (.int .i64 0)]) 40 rfl Tryd.underlying46 info_ByR rfl (by decide) (by omega) v7 (byS os) (⟨(⟨1, min x.f1 y.f1, (⟨#[]⟩ : ByteArray)⟩ : Op), 0⟩ : By) [.int .i64 1, .int .i64 (min x.f1 y.f1), .string (⟨#[]⟩ : ByteArray), .int .i64 0] (fun _ => True) (fun _ => False) rfl rfl ?aP (fun _ hk => hk.elim) (fun _ _ => trivial) ?aO ?aB ?aS ?aL ?_; (case aP => exact kBy_mkM _ _ _ (⟨(⟨1, min x.f1 y.f1, (⟨#[]⟩ : ByteArray)⟩ : Op), 0⟩ : By)); (case aO => exact (RefW.mono HS.out.1 (ok' := fun _ => True) (fun _ _ => trivial)).2.2.2); (case aB => exact (RefW.mono HS.out.1 (ok' := fun _ => True) (fun _ _ => trivial)).1); (case aS => exact below_size (RefW.mono HS.out.1 (ok' := fun _ => True) (fun _ _ => trivial)).1); (case aL => have := HL.out; omega); intro v8_ w8_ ho hb hg hat; have HW2 := Aside0.mk (RefW.app (RefW.mono HS.out.1 (ok' := fun _ => True) (fun _ _ => trivial)) ho hb hg hat); clear ho hb hg hat) | ((with_reducible show Code.wp _ (Code.seq (Code.region 38 _ _) _) _ _ _); refine Aside0.out ?_))
  refine ⟨?_⟩
  refine refD w _ K ps qs (byS (os ++ [(lineL x y).2.2])) (min x.f1 y.f1) ⟨?_⟩ HP ⟨?_⟩
  ·rw [byS_app, HE.out]
   exact HW2.out
  ·intros
   apply HK.out
   ·assumption
   ·rw [metS_app, HE.out]; simp [metS]
 ·skip
  have tx1 : (x.f0 == 1) = true := beq_iff_eq.mpr kx
  have tx2 : (x.f0 == 2) = false := beq_eq_false_iff_ne.mpr (by omega)
  have tx3 : (x.f0 == 3) = false := beq_eq_false_iff_ne.mpr (by omega)
  have tx4 : (x.f0 == 4) = false := beq_eq_false_iff_ne.mpr (by omega)
  have ty1 : (y.f0 == 1) = false := beq_eq_false_iff_ne.mpr (by omega)
  have ty2 : (y.f0 == 2) = true := beq_iff_eq.mpr ky
  have ty3 : (y.f0 == 3) = false := beq_eq_false_iff_ne.mpr (by omega)
  have ty4 : (y.f0 == 4) = false := beq_eq_false_iff_ne.mpr (by omega)
  have HE := Aside0.mk (show lineL x y = (x.f2 ++ y.f2, 1, ⟨y, 0, false⟩) from by simp [lineL, kx, ky])
  clear kx ky
  go_upto_region 999 with (first | ((with_reducible refine gate_builtin (b := .append) (xs := #[.tmp 174, .tmp 177]) rfl ?_); (try (refine gate_guard (by rfl) ?_; dsimp only)); at_builtin; refine Kd.R_append kBy (w0 := w) w.heap.size rfl (.tmp 174) (.tmp 177) 46 61 (.agg #[(.int .i64 0), (.int .i64 0), (.string ⟨#[]⟩), (.int .i64 0)]) 40 rfl Tryd.underlying46 info_ByR rfl (by decide) (by omega) v7 (byS os) (⟨(⟨y.f0, y.f1, y.f2⟩ : Op), 0⟩ : By) [.int .i64 y.f0, .int .i64 y.f1, .string y.f2, .int .i64 0] (fun _ => True) (fun _ => False) rfl rfl ?aP (fun _ hk => hk.elim) (fun _ _ => trivial) ?aO ?aB ?aS ?aL ?_; (case aP => exact kBy_mkM _ _ _ (⟨(⟨y.f0, y.f1, y.f2⟩ : Op), 0⟩ : By)); (case aO => exact (RefW.mono HS.out.1 (ok' := fun _ => True) (fun _ _ => trivial)).2.2.2); (case aB => exact (RefW.mono HS.out.1 (ok' := fun _ => True) (fun _ _ => trivial)).1); (case aS => exact below_size (RefW.mono HS.out.1 (ok' := fun _ => True) (fun _ _ => trivial)).1); (case aL => have := HL.out; omega); intro v8_ w8_ ho hb hg hat; have HW2 := Aside0.mk (RefW.app (RefW.mono HS.out.1 (ok' := fun _ => True) (fun _ _ => trivial)) ho hb hg hat); clear ho hb hg hat) | ((with_reducible show Code.wp _ (Code.seq (Code.region 38 _ _) _) _ _ _); refine Aside0.out ?_))
  refine ⟨?_⟩
  refine refD w _ K ps qs (byS (os ++ [(lineL x y).2.2])) n ⟨?_⟩ HP ⟨?_⟩
  ·rw [byS_app, HE.out]
   exact HW2.out
  ·intros
   apply HK.out
   ·assumption
   ·rw [metS_app, HE.out]; simp [metS]
 ·skip
  have tx1 : (x.f0 == 1) = true := beq_iff_eq.mpr kx
  have tx2 : (x.f0 == 2) = false := beq_eq_false_iff_ne.mpr (by omega)
  have tx3 : (x.f0 == 3) = false := beq_eq_false_iff_ne.mpr (by omega)
  have tx4 : (x.f0 == 4) = false := beq_eq_false_iff_ne.mpr (by omega)
  have ty1 : (y.f0 == 1) = false := beq_eq_false_iff_ne.mpr (by omega)
  have ty2 : (y.f0 == 2) = false := beq_eq_false_iff_ne.mpr (by omega)
  have ty3 : (y.f0 == 3) = true := beq_iff_eq.mpr ky
  have ty4 : (y.f0 == 4) = false := beq_eq_false_iff_ne.mpr (by omega)
  have HE := Aside0.mk (show lineL x y = (x.f2 ++ y.f2, 1, ⟨y, 2, false⟩) from by simp [lineL, kx, ky])
  clear kx ky
  go_upto_region 999 with (first | ((with_reducible refine gate_builtin (b := .append) (xs := #[.tmp 165, .tmp 168]) rfl ?_); (try (refine gate_guard (by rfl) ?_; dsimp only)); at_builtin; refine Kd.R_append kBy (w0 := w) w.heap.size rfl (.tmp 165) (.tmp 168) 46 61 (.agg #[(.int .i64 0), (.int .i64 0), (.string ⟨#[]⟩), (.int .i64 0)]) 40 rfl Tryd.underlying46 info_ByR rfl (by decide) (by omega) v7 (byS os) (⟨(⟨y.f0, y.f1, y.f2⟩ : Op), 2⟩ : By) [.int .i64 y.f0, .int .i64 y.f1, .string y.f2, .int .i64 2] (fun _ => True) (fun _ => False) rfl rfl ?aP (fun _ hk => hk.elim) (fun _ _ => trivial) ?aO ?aB ?aS ?aL ?_; (case aP => exact kBy_mkM _ _ _ (⟨(⟨y.f0, y.f1, y.f2⟩ : Op), 2⟩ : By)); (case aO => exact (RefW.mono HS.out.1 (ok' := fun _ => True) (fun _ _ => trivial)).2.2.2); (case aB => exact (RefW.mono HS.out.1 (ok' := fun _ => True) (fun _ _ => trivial)).1); (case aS => exact below_size (RefW.mono HS.out.1 (ok' := fun _ => True) (fun _ _ => trivial)).1); (case aL => have := HL.out; omega); intro v8_ w8_ ho hb hg hat; have HW2 := Aside0.mk (RefW.app (RefW.mono HS.out.1 (ok' := fun _ => True) (fun _ _ => trivial)) ho hb hg hat); clear ho hb hg hat) | ((with_reducible show Code.wp _ (Code.seq (Code.region 38 _ _) _) _ _ _); refine Aside0.out ?_))
  refine ⟨?_⟩
  refine refD w _ K ps qs (byS (os ++ [(lineL x y).2.2])) n ⟨?_⟩ HP ⟨?_⟩
  ·rw [byS_app, HE.out]
   exact HW2.out
  ·intros
   apply HK.out
   ·assumption
   ·rw [metS_app, HE.out]; simp [metS]
 ·skip
  have tx1 : (x.f0 == 1) = false := beq_eq_false_iff_ne.mpr (by omega)
  have tx2 : (x.f0 == 2) = true := beq_iff_eq.mpr kx
  have tx3 : (x.f0 == 3) = false := beq_eq_false_iff_ne.mpr (by omega)
  have tx4 : (x.f0 == 4) = false := beq_eq_false_iff_ne.mpr (by omega)
  have ty1 : (y.f0 == 1) = true := beq_iff_eq.mpr ky
  have ty2 : (y.f0 == 2) = false := beq_eq_false_iff_ne.mpr (by omega)
  have ty3 : (y.f0 == 3) = false := beq_eq_false_iff_ne.mpr (by omega)
  have ty4 : (y.f0 == 4) = false := beq_eq_false_iff_ne.mpr (by omega)
  have HE := Aside0.mk (show lineL x y = (x.f2 ++ y.f2, 1, ⟨x, 0, false⟩) from by simp [lineL, kx, ky])
  clear kx ky
  go_upto_region 999 with (first | ((with_reducible refine gate_builtin (b := .append) (xs := #[.tmp 123, .tmp 126]) rfl ?_); (try (refine gate_guard (by rfl) ?_; dsimp only)); at_builtin; refine Kd.R_append kBy (w0 := w) w.heap.size rfl (.tmp 123) (.tmp 126) 46 61 (.agg #[(.int .i64 0), (.int .i64 0), (.string ⟨#[]⟩), (.int .i64 0)]) 40 rfl Tryd.underlying46 info_ByR rfl (by decide) (by omega) v7 (byS os) (⟨(⟨x.f0, x.f1, x.f2⟩ : Op), 0⟩ : By) [.int .i64 x.f0, .int .i64 x.f1, .string x.f2, .int .i64 0] (fun _ => True) (fun _ => False) rfl rfl ?aP (fun _ hk => hk.elim) (fun _ _ => trivial) ?aO ?aB ?aS ?aL ?_; (case aP => exact kBy_mkM _ _ _ (⟨(⟨x.f0, x.f1, x.f2⟩ : Op), 0⟩ : By)); (case aO => exact (RefW.mono HS.out.1 (ok' := fun _ => True) (fun _ _ => trivial)).2.2.2); (case aB => exact (RefW.mono HS.out.1 (ok' := fun _ => True) (fun _ _ => trivial)).1); (case aS => exact below_size (RefW.mono HS.out.1 (ok' := fun _ => True) (fun _ _ => trivial)).1); (case aL => have := HL.out; omega); intro v8_ w8_ ho hb hg hat; have HW2 := Aside0.mk (RefW.app (RefW.mono HS.out.1 (ok' := fun _ => True) (fun _ _ => trivial)) ho hb hg hat); clear ho hb hg hat) | ((with_reducible show Code.wp _ (Code.seq (Code.region 38 _ _) _) _ _ _); refine Aside0.out ?_))
  refine ⟨?_⟩
  refine refD w _ K ps qs (byS (os ++ [(lineL x y).2.2])) n ⟨?_⟩ HP ⟨?_⟩
  ·rw [byS_app, HE.out]
   exact HW2.out
  ·intros
   apply HK.out
   ·assumption
   ·rw [metS_app, HE.out]; simp [metS]
 ·skip
  have tx1 : (x.f0 == 1) = false := beq_eq_false_iff_ne.mpr (by omega)
  have tx2 : (x.f0 == 2) = true := beq_iff_eq.mpr kx
  have tx3 : (x.f0 == 3) = false := beq_eq_false_iff_ne.mpr (by omega)
  have tx4 : (x.f0 == 4) = false := beq_eq_false_iff_ne.mpr (by omega)
  have ty1 : (y.f0 == 1) = false := beq_eq_false_iff_ne.mpr (by omega)
  have ty2 : (y.f0 == 2) = true := beq_iff_eq.mpr ky
  have ty3 : (y.f0 == 3) = false := beq_eq_false_iff_ne.mpr (by omega)
  have ty4 : (y.f0 == 4) = false := beq_eq_false_iff_ne.mpr (by omega)
  have HE := Aside0.mk (show lineL x y = (x.f2, 1, ⟨y, 0, false⟩) from by simp [lineL, kx, ky])
  clear kx ky
  go_upto_region 999 with (first | ((with_reducible refine gate_builtin (b := .append) (xs := #[.tmp 174, .tmp 177]) rfl ?_); (try (refine gate_guard (by rfl) ?_; dsimp only)); at_builtin; refine Kd.R_append kBy (w0 := w) w.heap.size rfl (.tmp 174) (.tmp 177) 46 61 (.agg #[(.int .i64 0), (.int .i64 0), (.string ⟨#[]⟩), (.int .i64 0)]) 40 rfl Tryd.underlying46 info_ByR rfl (by decide) (by omega) v7 (byS os) (⟨(⟨y.f0, y.f1, y.f2⟩ : Op), 0⟩ : By) [.int .i64 y.f0, .int .i64 y.f1, .string y.f2, .int .i64 0] (fun _ => True) (fun _ => False) rfl rfl ?aP (fun _ hk => hk.elim) (fun _ _ => trivial) ?aO ?aB ?aS ?aL ?_; (case aP => exact kBy_mkM _ _ _ (⟨(⟨y.f0, y.f1, y.f2⟩ : Op), 0⟩ : By)); (case aO => exact (RefW.mono HS.out.1 (ok' := fun _ => True) (fun _ _ => trivial)).2.2.2); (case aB => exact (RefW.mono HS.out.1 (ok' := fun _ => True) (fun _ _ => trivial)).1); (case aS => exact below_size (RefW.mono HS.out.1 (ok' := fun _ => True) (fun _ _ => trivial)).1); (case aL => have := HL.out; omega); intro v8_ w8_ ho hb hg hat; have HW2 := Aside0.mk (RefW.app (RefW.mono HS.out.1 (ok' := fun _ => True) (fun _ _ => trivial)) ho hb hg hat); clear ho hb hg hat) | ((with_reducible show Code.wp _ (Code.seq (Code.region 38 _ _) _) _ _ _); refine Aside0.out ?_))
  refine ⟨?_⟩
  refine refD w _ K ps qs (byS (os ++ [(lineL x y).2.2])) n ⟨?_⟩ HP ⟨?_⟩
  ·rw [byS_app, HE.out]
   exact HW2.out
  ·intros
   apply HK.out
   ·assumption
   ·rw [metS_app, HE.out]; simp [metS]
 ·skip
  have tx1 : (x.f0 == 1) = false := beq_eq_false_iff_ne.mpr (by omega)
  have tx2 : (x.f0 == 2) = true := beq_iff_eq.mpr kx
  have tx3 : (x.f0 == 3) = false := beq_eq_false_iff_ne.mpr (by omega)
  have tx4 : (x.f0 == 4) = false := beq_eq_false_iff_ne.mpr (by omega)
  have ty1 : (y.f0 == 1) = false := beq_eq_false_iff_ne.mpr (by omega)
  have ty2 : (y.f0 == 2) = false := beq_eq_false_iff_ne.mpr (by omega)
  have ty3 : (y.f0 == 3) = true := beq_iff_eq.mpr ky
  have ty4 : (y.f0 == 4) = false := beq_eq_false_iff_ne.mpr (by omega)
  have HE := Aside0.mk (show lineL x y = (x.f2, 1, ⟨y, 2, false⟩) from by simp [lineL, kx, ky])
  clear kx ky
  go_upto_region 999 with (first | ((with_reducible refine gate_builtin (b := .append) (xs := #[.tmp 165, .tmp 168]) rfl ?_); (try (refine gate_guard (by rfl) ?_; dsimp only)); at_builtin; refine Kd.R_append kBy (w0 := w) w.heap.size rfl (.tmp 165) (.tmp 168) 46 61 (.agg #[(.int .i64 0), (.int .i64 0), (.string ⟨#[]⟩), (.int .i64 0)]) 40 rfl Tryd.underlying46 info_ByR rfl (by decide) (by omega) v7 (byS os) (⟨(⟨y.f0, y.f1, y.f2⟩ : Op), 2⟩ : By) [.int .i64 y.f0, .int .i64 y.f1, .string y.f2, .int .i64 2] (fun _ => True) (fun _ => False) rfl rfl ?aP (fun _ hk => hk.elim) (fun _ _ => trivial) ?aO ?aB ?aS ?aL ?_; (case aP => exact kBy_mkM _ _ _ (⟨(⟨y.f0, y.f1, y.f2⟩ : Op), 2⟩ : By)); (case aO => exact (RefW.mono HS.out.1 (ok' := fun _ => True) (fun _ _ => trivial)).2.2.2); (case aB => exact (RefW.mono HS.out.1 (ok' := fun _ => True) (fun _ _ => trivial)).1); (case aS => exact below_size (RefW.mono HS.out.1 (ok' := fun _ => True) (fun _ _ => trivial)).1); (case aL => have := HL.out; omega); intro v8_ w8_ ho hb hg hat; have HW2 := Aside0.mk (RefW.app (RefW.mono HS.out.1 (ok' := fun _ => True) (fun _ _ => trivial)) ho hb hg hat); clear ho hb hg hat) | ((with_reducible show Code.wp _ (Code.seq (Code.region 38 _ _) _) _ _ _); refine Aside0.out ?_))
  refine ⟨?_⟩
  refine refD w _ K ps qs (byS (os ++ [(lineL x y).2.2])) n ⟨?_⟩ HP ⟨?_⟩
  ·rw [byS_app, HE.out]
   exact HW2.out
  ·intros
   apply HK.out
   ·assumption
   ·rw [metS_app, HE.out]; simp [metS]
 ·skip
  have tx1 : (x.f0 == 1) = false := beq_eq_false_iff_ne.mpr (by omega)
  have tx2 : (x.f0 == 2) = false := beq_eq_false_iff_ne.mpr (by omega)
  have tx3 : (x.f0 == 3) = false := beq_eq_false_iff_ne.mpr (by omega)
  have tx4 : (x.f0 == 4) = true := beq_iff_eq.mpr kx
  have ty1 : (y.f0 == 1) = true := beq_iff_eq.mpr ky
  have ty2 : (y.f0 == 2) = false := beq_eq_false_iff_ne.mpr (by omega)
  have ty3 : (y.f0 == 3) = false := beq_eq_false_iff_ne.mpr (by omega)
  have ty4 : (y.f0 == 4) = false := beq_eq_false_iff_ne.mpr (by omega)
  have HE := Aside0.mk (show lineL x y = (x.f2 ++ y.f2, 1, ⟨x, 1, false⟩) from by simp [lineL, kx, ky])
  clear kx ky
  go_upto_region 999 with (first | ((with_reducible refine gate_builtin (b := .append) (xs := #[.tmp 156, .tmp 159]) rfl ?_); (try (refine gate_guard (by rfl) ?_; dsimp only)); at_builtin; refine Kd.R_append kBy (w0 := w) w.heap.size rfl (.tmp 156) (.tmp 159) 46 61 (.agg #[(.int .i64 0), (.int .i64 0), (.string ⟨#[]⟩), (.int .i64 0)]) 40 rfl Tryd.underlying46 info_ByR rfl (by decide) (by omega) v7 (byS os) (⟨(⟨x.f0, x.f1, x.f2⟩ : Op), 1⟩ : By) [.int .i64 x.f0, .int .i64 x.f1, .string x.f2, .int .i64 1] (fun _ => True) (fun _ => False) rfl rfl ?aP (fun _ hk => hk.elim) (fun _ _ => trivial) ?aO ?aB ?aS ?aL ?_; (case aP => exact kBy_mkM _ _ _ (⟨(⟨x.f0, x.f1, x.f2⟩ : Op), 1⟩ : By)); (case aO => exact (RefW.mono HS.out.1 (ok' := fun _ => True) (fun _ _ => trivial)).2.2.2); (case aB => exact (RefW.mono HS.out.1 (ok' := fun _ => True) (fun _ _ => trivial)).1); (case aS => exact below_size (RefW.mono HS.out.1 (ok' := fun _ => True) (fun _ _ => trivial)).1); (case aL => have := HL.out; omega); intro v8_ w8_ ho hb hg hat; have HW2 := Aside0.mk (RefW.app (RefW.mono HS.out.1 (ok' := fun _ => True) (fun _ _ => trivial)) ho hb hg hat); clear ho hb hg hat) | ((with_reducible show Code.wp _ (Code.seq (Code.region 38 _ _) _) _ _ _); refine Aside0.out ?_))
  refine ⟨?_⟩
  refine refD w _ K ps qs (byS (os ++ [(lineL x y).2.2])) n ⟨?_⟩ HP ⟨?_⟩
  ·rw [byS_app, HE.out]
   exact HW2.out
  ·intros
   apply HK.out
   ·assumption
   ·rw [metS_app, HE.out]; simp [metS]
 ·skip
  have tx1 : (x.f0 == 1) = false := beq_eq_false_iff_ne.mpr (by omega)
  have tx2 : (x.f0 == 2) = false := beq_eq_false_iff_ne.mpr (by omega)
  have tx3 : (x.f0 == 3) = false := beq_eq_false_iff_ne.mpr (by omega)
  have tx4 : (x.f0 == 4) = true := beq_iff_eq.mpr kx
  have ty1 : (y.f0 == 1) = false := beq_eq_false_iff_ne.mpr (by omega)
  have ty2 : (y.f0 == 2) = true := beq_iff_eq.mpr ky
  have ty3 : (y.f0 == 3) = false := beq_eq_false_iff_ne.mpr (by omega)
  have ty4 : (y.f0 == 4) = false := beq_eq_false_iff_ne.mpr (by omega)
  have HE := Aside0.mk (show lineL x y = (x.f2, 1, ⟨x, 1, false⟩) from by simp [lineL, kx, ky])
  clear kx ky
  go_upto_region 999 with (first | ((with_reducible refine gate_builtin (b := .append) (xs := #[.tmp 156, .tmp 159]) rfl ?_); (try (refine gate_guard (by rfl) ?_; dsimp only)); at_builtin; refine Kd.R_append kBy (w0 := w) w.heap.size rfl (.tmp 156) (.tmp 159) 46 61 (.agg #[(.int .i64 0), (.int .i64 0), (.string ⟨#[]⟩), (.int .i64 0)]) 40 rfl Tryd.underlying46 info_ByR rfl (by decide) (by omega) v7 (byS os) (⟨(⟨x.f0, x.f1, x.f2⟩ : Op), 1⟩ : By) [.int .i64 x.f0, .int .i64 x.f1, .string x.f2, .int .i64 1] (fun _ => True) (fun _ => False) rfl rfl ?aP (fun _ hk => hk.elim) (fun _ _ => trivial) ?aO ?aB ?aS ?aL ?_; (case aP => exact kBy_mkM _ _ _ (⟨(⟨x.f0, x.f1, x.f2⟩ : Op), 1⟩ : By)); (case aO => exact (RefW.mono HS.out.1 (ok' := fun _ => True) (fun _ _ => trivial)).2.2.2); (case aB => exact (RefW.mono HS.out.1 (ok' := fun _ => True) (fun _ _ => trivial)).1); (case aS => exact below_size (RefW.mono HS.out.1 (ok' := fun _ => True) (fun _ _ => trivial)).1); (case aL => have := HL.out; omega); intro v8_ w8_ ho hb hg hat; have HW2 := Aside0.mk (RefW.app (RefW.mono HS.out.1 (ok' := fun _ => True) (fun _ _ => trivial)) ho hb hg hat); clear ho hb hg hat) | ((with_reducible show Code.wp _ (Code.seq (Code.region 38 _ _) _) _ _ _); refine Aside0.out ?_))
  refine ⟨?_⟩
  refine refD w _ K ps qs (byS (os ++ [(lineL x y).2.2])) n ⟨?_⟩ HP ⟨?_⟩
  ·rw [byS_app, HE.out]
   exact HW2.out
  ·intros
   apply HK.out
   ·assumption
   ·rw [metS_app, HE.out]; simp [metS]
 ·skip
  have tx1 : (x.f0 == 1) = false := beq_eq_false_iff_ne.mpr (by omega)
  have tx2 : (x.f0 == 2) = false := beq_eq_false_iff_ne.mpr (by omega)
  have tx3 : (x.f0 == 3) = false := beq_eq_false_iff_ne.mpr (by omega)
  have tx4 : (x.f0 == 4) = true := beq_iff_eq.mpr kx
  have ty1 : (y.f0 == 1) = false := beq_eq_false_iff_ne.mpr (by omega)
  have ty2 : (y.f0 == 2) = false := beq_eq_false_iff_ne.mpr (by omega)
  have ty3 : (y.f0 == 3) = true := beq_iff_eq.mpr ky
  have ty4 : (y.f0 == 4) = false := beq_eq_false_iff_ne.mpr (by omega)
  have HE := Aside0.mk (show lineL x y = (x.f2, 1, ⟨x, 1, true⟩) from by simp [lineL, kx, ky])
  clear kx ky
  have HW2 := Aside0.mk (RefW.mono HS.out.1 (ok' := fun _ => True) (fun _ _ => trivial))
  go_upto_region 999 with (first | ((with_reducible show Code.wp _ (Code.seq (Code.region 38 _ _) _) _ _ _); refine Aside0.out ?_))
  refine ⟨?_⟩
  refine refD w _ K ps qs (byS (os ++ [(lineL x y).2.2])) n ⟨?_⟩ HP ⟨?_⟩
  ·rw [byS_app, HE.out]
   exact by simpa [byS] using HW2.out
  ·intros
   apply HK.out
   ·assumption
   ·rw [metS_app, HE.out]; simp [metS]
end Go.Proofs.YtkiklmmpflndbaaDoor.P
