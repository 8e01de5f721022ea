/- Own and printed texts that the theorem of InterEach reaches, put together. -/
import Derived.Test.YtfoponahdidddaaqInterEach8
import Derived.Test.YtfoponahdidddaaqInterEach3
import Derived.Test.YtfoponahdidddaaqInterEach6
import Derived.Test.YtfoponahdidddaaqInterEach4
import Derived.Test.YtfoponahdidddaaqInterEach5
import Derived.Test.YtfoponahdidddaaqInterEach9
import Derived.Outline
set_option linter.unusedVariables false
set_option linter.unusedSimpArgs false
namespace Go.Proofs.Ytfoponahdidddaa.P
open Go.RowKit Go.Proofs.YtfoponahdidddaaW.PrintWords Go.Proofs.YtfoponahdidddaaW.PrintLast Go.Proofs.YtfoponahdidddaaW.PrintMore
theorem okW_parts {p q : List Op} (h : okW p q = true) : (∀ o ∈ p, okW1 o = true) ∧ (∀ o ∈ q, okW1 o = true) ∧ p.length + q.length ≤ 1099511627776 := by
 unfold okW at h
 simpa only [Bool.and_eq_true, List.all_eq_true, decide_eq_true_eq] using h
theorem head_q {wr : World} {base : Nat} {ok : Nat → Prop} {v : Value} {o : Op} {r : List Op} (h : Kd.Q kOp 41 wr base ok v (o :: r)) :
  ∃ ga off cap A1 c1 m, 0 < m ∧ m = r.length + 1 ∧ v = .slice (some ⟨ga, off, none⟩) m cap ∧ wr.cell? ⟨ga, off, none⟩ = some (.int .i64 o.f0) ∧ wr.cell? ⟨ga, off + 1, none⟩ = some (.int .i64 o.f1) ∧ wr.cell? ⟨ga, off + 2, none⟩ = some (.string o.f2) ∧
   (∀ W, (Instr.slice 22 (.slice (some ⟨ga, off, none⟩) m cap) (some (.int .i64 1)) none none).run Try.prog W = .ok (.slice A1 r.length c1) W) ∧ (Value.slice A1 r.length c1).ownBlock = v.ownBlock ∧ Kd.Q kOp 41 wr base ok (.slice A1 r.length c1) r := by
 obtain ⟨ga, off, cap, hv, _, _, _⟩ := Kd.Q_form h (by simp)
 subst hv
 obtain ⟨cs, hcl, hM, hcc, hff⟩ := Kd.Q_elem h o 0 (by omega) (by simp only [List.length_cons]; omega)
 have hcs := kOp_openM hM
 rw [show (o :: r).getD (0 : Int).toNat o = o from rfl] at hcs
 subst hcs
 simp only [Int.toNat_zero, Nat.zero_mul, Nat.add_zero] at hcc
 obtain ⟨bi, hbi, hbs⟩ := info_OpB
 have hcap := (Kd.Q_reads' h).2.1
 have hcut := cut_from (P := Try.prog) 22 41 .i64 Try.underlying22 hbi 3 hbs (some ⟨ga, off, none⟩) (o :: r).length cap 1 (by omega) (by simp only [List.length_cons]; omega)
 have hdrop := Kd.Q_drop (k := 1) h (by simp)
 refine ⟨ga, off, cap, _, _, _, ?_, rfl, rfl, hcc 0 _ rfl, hcc 1 _ rfl, hcc 2 _ rfl, hcut, ?_, hdrop⟩
 ·omega
 ·simp only [show (1 : Int).toNat = 1 from rfl]
  split <;> simp [Value.ownBlock, Addr.add]
def WalkPost (w : World) (r1 : List Step) (r2 : Bool) (e : Ending) (w' : World) : Prop := ∃ v0_ : Value, e = .returned (.tuple #[v0_, .bool r2]) ∧ Kd.R kStep 77 w' w.heap.size (fun _ => True) v0_ r1 ∧ Below w.heap.size w w'
set_option maxHeartbeats 1000000 in
theorem walk_no0 (k : Nat) (A0 : Option Addr) (c0 : Nat) (l0 : List (Op)) (A1 : Option Addr) (c1 : Nat) (l1 : List (Op)) (w : World) (hr0 : Kd.C kOp w A0 l0.length l0) (hc0 : l0.length ≤ c0) (h0 : ops_Right.f k l0 = some false) :
  Calls Try.prog 36 #[.slice A0 l0.length c0, .slice A1 l1.length c1] w (WalkPost w [] false) := by
 have HR0 := Aside0.mk hr0
 have HC0 := Aside0.mk hc0
 have HK0 := Aside0.mk h0
 clear hr0 hc0 h0
 go_enter Try.func36, Try.ntmps36
 go_wp2_with fail
 refine (ops_Right.calls k A0 c0 l0 false _ HR0.out HC0.out HK0.out).mono ?_
 rintro e w1 ⟨rfl, hb⟩
 have HB := Aside0.mk hb
 clear hb
 go_wp2
 go_ret2
 exact ⟨_, rfl, Kd.R_nil _ _ _ _ _, HB.out⟩
set_option maxHeartbeats 1000000 in
theorem walk_no1 (k : Nat) (A0 : Option Addr) (c0 : Nat) (l0 : List (Op)) (A1 : Option Addr) (c1 : Nat) (l1 : List (Op)) (w : World) (hr0 : Kd.C kOp w A0 l0.length l0) (hc0 : l0.length ≤ c0) (hr1 : Kd.C kOp w A1 l1.length l1) (hc1 : l1.length ≤ c1) (h0 : ops_Right.f k l0 = some true) (h1 : ops_Right.f k l1 = some false) :
  Calls Try.prog 36 #[.slice A0 l0.length c0, .slice A1 l1.length c1] w (WalkPost w [] false) := by
 have HR0 := Aside0.mk hr0
 have HC0 := Aside0.mk hc0
 have HK0 := Aside0.mk h0
 have HR1 := Aside0.mk hr1
 have HC1 := Aside0.mk hc1
 have HK1 := Aside0.mk h1
 clear hr0 hc0 h0 hr1 hc1 h1
 go_enter Try.func36, Try.ntmps36
 go_wp2_with fail
 refine (ops_Right.calls k A0 c0 l0 true _ HR0.out HC0.out HK0.out).mono ?_
 rintro e w1 ⟨rfl, hb⟩
 have HB := Aside0.mk hb
 clear hb
 go_wp2_with fail
 refine (ops_Right.calls k A1 c1 l1 false _ (Kd.C_below HR1.out HB.out) HC1.out HK1.out).mono ?_
 rintro e w2 ⟨rfl, hb⟩
 have HB2 := Aside0.mk (below_step HB.out hb)
 clear hb
 go_wp2
 go_ret2
 exact ⟨_, rfl, Kd.R_nil _ _ _ _ _, HB2.out⟩
set_option maxHeartbeats 4000000 in
set_option maxRecDepth 100000 in
theorem walk_yes (k : Nat) (A0 : Option Addr) (c0 : Nat) (l0 : List (Op)) (A1 : Option Addr) (c1 : Nat) (l1 : List (Op)) (r1 : List Step) (r2 : Bool) (w : World) (hr0 : Kd.C kOp w A0 l0.length l0) (hc0 : l0.length ≤ c0) (hr1 : Kd.C kOp w A1 l1.length l1) (hc1 : l1.length ≤ c1) (h0 : ops_Right.f k l0 = some true) (h1 : ops_Right.f k l1 = some true) (hok : okW l0 l1 = true)
  (h : (match walkO (l0.length + l1.length) l0 l1 false with | none => some ([], false) | some os => (compose_told.f k os).bind fun t => if t.2 = true then some (os, true) else some ([], false)) = some (r1, r2)) :
  Calls Try.prog 36 #[.slice A0 l0.length c0, .slice A1 l1.length c1] w (WalkPost w r1 r2) := by
 obtain ⟨ok0, ok1, hlen⟩ := okW_parts hok
 have HR0 := Aside0.mk hr0
 have HC0 := Aside0.mk hc0
 have HK0 := Aside0.mk h0
 have HR1 := Aside0.mk hr1
 have HC1 := Aside0.mk hc1
 have HK1 := Aside0.mk h1
 have HOK := Aside0.mk (And.intro ok0 (And.intro ok1 hlen))
 have HH := Aside0.mk h
 clear hr0 hc0 h0 hr1 hc1 h1 hok h ok0 ok1 hlen
 go_enter Try.func36, Try.ntmps36
 go_wp2_with fail
 refine (ops_Right.calls k A0 c0 l0 true _ HR0.out HC0.out HK0.out).mono ?_
 rintro e w1 ⟨rfl, hb⟩
 have HB := Aside0.mk hb
 clear hb
 go_wp2_with fail
 refine (ops_Right.calls k A1 c1 l1 true _ (Kd.C_below HR1.out HB.out) HC1.out HK1.out).mono ?_
 rintro e w2 ⟨rfl, hb⟩
 have HB2 := Aside0.mk (below_step HB.out hb)
 clear hb HB HK0 HK1
 go_wp2_with fail
 refine (clone_walk w _ HB2.out A0 c0 l0 (Kd.C_below HR0.out HB2.out) HC0.out (by have := HOK.out.2.2; omega)).mono ?_
 rintro e w3 ⟨v3, rfl, hb, hq⟩
 have HB3 := Aside0.mk (below_step HB2.out hb)
 have HQ3 := Aside0.mk (Kd.R_lower hq (below_size HB2.out))
 clear hb hq HB2 HR0 HC0
 go_wp2_with fail
 refine (clone_walk w _ HB3.out A1 c1 l1 (Kd.C_below HR1.out HB3.out) HC1.out (by have := HOK.out.2.2; omega)).mono ?_
 rintro e w4 ⟨v4, rfl, hb, hq⟩
 have hQ3 := Kd.Q_of_R (Kd.R_elder' (v := v4) HQ3.out (Kd.R_base hq) hb)
 have hlt : ∀ k, v3.ownBlock = some k → k < w3.heap.size := fun k hk => (Kd.R_bound HQ3.out).1 k hk |>.2.2.1
 have hQ4 := Kd.Q_of_R (Kd.R_lower (Kd.R_new' (u := v3) hq hlt) (below_size HB3.out))
 have HB4 := Aside0.mk (below_step HB3.out hb)
 have HQ := Aside0.mk (And.intro (Kd.Q_mono (ok' := fun k => some k ≠ v4.ownBlock) hQ3 (fun _ h => h.2)) (Kd.Q_mono (ok' := fun k => some k ≠ v3.ownBlock) hQ4 (fun _ h => h.2)))
 obtain ⟨A3, c3, e3⟩ := Kd.R_slice HQ3.out
 obtain ⟨A4, c4, e4⟩ := Kd.R_slice hq
 subst e3
 subst e4
 clear hb hq HB3 HR1 HC1 HQ3 hQ3 hlt hQ4
 go_wp2
 have hW : WkW w (w4.alloc (.cells #[.slice A3 l0.length c3, .slice A4 l1.length c4, .bool false, .slice none 0 0] 73)) w4.heap.size l0 l1 false [] := ⟨below_alloc HB4.out _, below_size HB4.out, _, _, _, blk_new _ _, Kd.Q_below HQ.out.1 (below_alloc (Below.refl _ _) _), Kd.Q_below HQ.out.2 (below_alloc (Below.refl _ _) _), Kd.R_nil _ _ _ _ _⟩
 generalize w4.alloc (.cells #[.slice A3 l0.length c3, .slice A4 l1.length c4, .bool false, .slice none 0 0] 73) = w5 at hW ⊢
 generalize w4.heap.size = g at hW ⊢
 have HW0 := Aside0.mk hW
 clear hW HB4 HQ
 go_loopg [] (l0.length + l1.length) (fun gk wx => ∃ (ps qs : List Op) (op : Bool) (os : List Step), Aside0 (WkW w wx g ps qs op os) ∧ Aside0 ((walkO gk ps qs op).map (os ++ ·) = walkO (l0.length + l1.length) l0 l1 false) ∧ Aside0 (ps.length + qs.length ≤ gk ∧ os.length + gk ≤ 1099511627776 ∧ (∀ o ∈ ps, okW1 o = true) ∧ ∀ o ∈ qs, okW1 o = true))
 case atStart => exact ⟨l0, l1, false, [], HW0, ⟨by simp⟩, ⟨Nat.le_refl _, by have := HOK.out.2.2; simpa using this, HOK.out.1, HOK.out.2.1⟩⟩
 case round =>
  clear HW0 HOK
  obtain ⟨ps, qs, op, os, HW, HM, HB⟩ := hrel
  by_cases hz : ps.length + qs.length = 0
  ·obtain rfl : ps = [] := List.length_eq_zero_iff.mp (by omega)
   obtain rfl : qs = [] := List.length_eq_zero_iff.mp (by omega)
   clear hz HB
   obtain ⟨h1, h2, pv, qv, ov, h3, h4, h5, h6⟩ := HW.out
   obtain ⟨Ap, cp, rfl, _⟩ := Kd.Q_slice h4
   obtain ⟨Aq, cq, rfl, _⟩ := Kd.Q_slice h5
   obtain ⟨Ao, co, rfl⟩ := Kd.R_slice h6
   have x0 : wr.cell? ⟨g, 0, none⟩ = some (.slice Ap 0 cp) := (blk_cell h3 0).trans rfl
   have x1 : wr.cell? ⟨g, 1, none⟩ = some (.slice Aq 0 cq) := (blk_cell h3 1).trans rfl
   have x3 : wr.cell? ⟨g, 3, none⟩ = some (.slice Ao os.length co) := (blk_cell h3 3).trans rfl
   have HR := Aside0.mk h6
   have HG := Aside0.mk h3
   have H1 := Aside0.mk h1
   have hM : walkO (l0.length + l1.length) l0 l1 false = some os := by
    rw [← HM.out]
    cases gk <;> simp [walkO]
   have hh := HH.out
   rw [hM] at hh
   obtain ⟨⟨t1, t2⟩, ht, hh⟩ := Option.bind_eq_some_iff.mp hh
   have HT := Aside0.mk ht
   have HH2 := Aside0.mk hh
   clear h1 h2 h3 h4 h5 h6 HW HM HH hM hh ht
   go_wp2_with fail
   go_quiet (fail)
   go_wp2_with fail
   refine (compose_told.calls k Ao co os t1 t2 _ (Kd.C_below (Kd.R_reads' HR.out).2.2 (pw_below_drewN (Below.refl _ _) _)) (Kd.R_reads' HR.out).2.1 HT.out).mono ?_
   rintro e w6 ⟨v6, rfl, hq, hb⟩
   have HR6 := Aside0.mk (Kd.R_below (Kd.R_drewN HR.out _) hb)
   have HB6 := Aside0.mk (below_step (pw_below_drewN H1.out _) hb)
   have hg6 := blk_below (blk_drewN HG.out _) hb
   have x6 : w6.cell? ⟨g, 3, none⟩ = some (.slice Ao os.length co) := (blk_cell hg6 3).trans rfl
   clear hq hb hg6 x0 x1 x3 HR HG H1
   cases t2 with
   | true =>
    go_wp2
    go_ret2
    obtain ⟨rfl, rfl⟩ := Prod.mk.inj (Option.some.inj HH2.out)
    exact ⟨_, rfl, Kd.R_lower HR6.out (Nat.le_refl _), HB6.out⟩
   | false =>
    go_wp2
    go_ret2
    obtain ⟨rfl, rfl⟩ := Prod.mk.inj (Option.some.inj HH2.out)
    exact ⟨_, rfl, Kd.R_nil _ _ _ _ _, HB6.out⟩
  ·obtain ⟨n, rfl⟩ : ∃ n, gk = n + 1 := ⟨gk - 1, by have := HB.out.1; omega⟩
   have hl : os.length < 2199023255552 := by have := HB.out.2.1; omega
   have HL := Aside0.mk hl
   have hsum : (ps.length : Int) + (qs.length : Int) ≤ 1099511627777 := by have h1 := HB.out.1; have h2 := HB.out.2.1; omega
   have hpos : (0 : Int) < (ps.length : Int) + (qs.length : Int) := by omega
   have HZ := Aside0.mk hz
   clear hl hz
   -- ROUND
   by_cases hd : hdK 3 ps = true
   ·cases ps with
    | nil => exact absurd hd (by simp [hdK])
    | cons o r =>
     have hk : o.f0 = 3 := by simpa [hdK] using hd
     have hwalk : walkO (n + 1) (o :: r) qs op = (walkO n r qs op).map (⟨o, 1, false⟩ :: ·) := by
      rw [walkO, if_neg HZ.out, if_pos hd]; rfl
     have HWK := Aside0.mk hwalk
     have d1 : (o.f0 == 3) = true := beq_iff_eq.mpr hk
     clear hd hk hwalk HZ
     rcases qs with _ | ⟨o2, r2⟩
     ·skip
      obtain ⟨h1, h2, pv, qv, ov, h3, h4, h5, h6⟩ := HW.out
      obtain ⟨ga, off, cap, _, _, m, hm0, hm, rfl, y0, y1, y2, _, _, _⟩ := head_q h4
      obtain ⟨Aq, cq, rfl, _⟩ := Kd.Q_slice h5
      have x0 : wr.cell? ⟨g, 0, none⟩ = some (.slice (some ⟨ga, off, none⟩) m cap) := (blk_cell h3 0).trans rfl
      have x1 : wr.cell? ⟨g, 1, none⟩ = some (.slice Aq 0 cq) := (blk_cell h3 1).trans rfl
      have i0 : ((0 : Int) < (m : Int)) = True := eq_true (by omega)
      have i1 : (0 < m) = True := eq_true hm0
      simp only [List.length_cons, List.length_nil] at hsum hpos
      rw [← hm] at hsum hpos
      clear h1 h2 h3 h4 h5 h6 hm
      go_wp2_with fail
      go_quiet (fail)
      go_wp2_with fail
      refine (wk_put w _ g (o :: r) [] op os (HW.out.below (pw_below_drewN (Below.refl _ _) _)) HL.out o 1).mono ?_
      rintro e w7 ⟨⟨r7, rfl⟩, hW⟩
      clear x0 x1 i0 i1 y0 y1 y2 hm0
      obtain ⟨h1, h2, pv, qv, ov, h3, h4, h5, h6⟩ := hW
      obtain ⟨ga, off, cap, A1, c1', m, hm0, hm, rfl, y0, y1, y2, hcut, hown, hq⟩ := head_q h4
      obtain ⟨Ax, cx, rfl, _⟩ := Kd.Q_slice h5
      have x0 : w7.cell? ⟨g, 0, none⟩ = some (.slice (some ⟨ga, off, none⟩) m cap) := (blk_cell h3 0).trans rfl
      have xf := blk_frozen h3 0
      have HG := Aside0.mk h3
      have H1 := Aside0.mk h1
      have H2 := Aside0.mk h2
      have HQ := Aside0.mk (And.intro (Kd.Q_mono (ok' := fun k => some k ≠ (Value.slice Ax ([]).length cx).ownBlock) hq (fun k hk => hk)) (And.intro (Kd.Q_mono (ok' := fun k => some k ≠ (Value.slice A1 r.length c1').ownBlock) h5 (fun k hk => by rw [hown]; exact hk)) h6))
      clear h1 h2 h3 h4 h5 h6 hq hown y0 y1 y2 hm hm0
      go_wp2_with fail
      go_roundg n
      case measure => omega
      case rel =>
       refine ⟨r, [], op, os ++ [⟨o, 1, false⟩], ⟨below_set H1.out H2.out, H2.out, _, _, _, (by simpa using blk_set HG.out 0 (.slice A1 r.length c1')), Kd.Q_set HQ.out.1 HG.out (by decide) 0 _, Kd.Q_set HQ.out.2.1 HG.out (by decide) 0 _, Kd.R_set HQ.out.2.2 HG.out (by decide) 0 _⟩, ⟨?_⟩, ⟨?_⟩⟩
       ·rw [← HM.out, HWK.out, Option.map_map]
        congr 1
        funext x
        simp
       ·have hb := HB.out
        refine ⟨by have := hb.1; simp only [List.length_cons, List.length_nil] at this ⊢; omega, by have := hb.2.1; simp only [List.length_append, List.length_singleton]; omega, fun x hx => hb.2.2.1 x (List.mem_cons_of_mem _ hx), hb.2.2.2⟩
     ·skip
      obtain ⟨h1, h2, pv, qv, ov, h3, h4, h5, h6⟩ := HW.out
      obtain ⟨ga, off, cap, _, _, m, hm0, hm, rfl, y0, y1, y2, _, _, _⟩ := head_q h4
      obtain ⟨gb, off2, cap2, _, _, m2, hm20, hm2, rfl, z0, z1, z2, _, _, _⟩ := head_q h5
      have x0 : wr.cell? ⟨g, 0, none⟩ = some (.slice (some ⟨ga, off, none⟩) m cap) := (blk_cell h3 0).trans rfl
      have x1 : wr.cell? ⟨g, 1, none⟩ = some (.slice (some ⟨gb, off2, none⟩) m2 cap2) := (blk_cell h3 1).trans rfl
      have i0 : ((0 : Int) < (m : Int)) = True := eq_true (by omega)
      have i1 : (0 < m) = True := eq_true hm0
      have k0 : ((0 : Int) < (m2 : Int)) = True := eq_true (by omega)
      have k1 : (0 < m2) = True := eq_true hm20
      simp only [List.length_cons, List.length_nil] at hsum hpos
      rw [← hm] at hsum hpos
      rw [← hm2] at hsum hpos
      clear h1 h2 h3 h4 h5 h6 hm hm2
      go_wp2_with fail
      go_quiet (fail)
      go_wp2_with fail
      refine (wk_put w _ g (o :: r) (o2 :: r2) op os (HW.out.below (pw_below_drewN (Below.refl _ _) _)) HL.out o 1).mono ?_
      rintro e w7 ⟨⟨r7, rfl⟩, hW⟩
      clear x0 x1 i0 i1 y0 y1 y2 hm0 k0 k1 z0 z1 z2 hm20
      obtain ⟨h1, h2, pv, qv, ov, h3, h4, h5, h6⟩ := hW
      obtain ⟨ga, off, cap, A1, c1', m, hm0, hm, rfl, y0, y1, y2, hcut, hown, hq⟩ := head_q h4
      obtain ⟨Ax, cx, rfl, _⟩ := Kd.Q_slice h5
      have x0 : w7.cell? ⟨g, 0, none⟩ = some (.slice (some ⟨ga, off, none⟩) m cap) := (blk_cell h3 0).trans rfl
      have xf := blk_frozen h3 0
      have HG := Aside0.mk h3
      have H1 := Aside0.mk h1
      have H2 := Aside0.mk h2
      have HQ := Aside0.mk (And.intro (Kd.Q_mono (ok' := fun k => some k ≠ (Value.slice Ax ((o2 :: r2)).length cx).ownBlock) hq (fun k hk => hk)) (And.intro (Kd.Q_mono (ok' := fun k => some k ≠ (Value.slice A1 r.length c1').ownBlock) h5 (fun k hk => by rw [hown]; exact hk)) h6))
      clear h1 h2 h3 h4 h5 h6 hq hown y0 y1 y2 hm hm0
      go_wp2_with fail
      go_roundg n
      case measure => omega
      case rel =>
       refine ⟨r, (o2 :: r2), op, os ++ [⟨o, 1, false⟩], ⟨below_set H1.out H2.out, H2.out, _, _, _, (by simpa using blk_set HG.out 0 (.slice A1 r.length c1')), Kd.Q_set HQ.out.1 HG.out (by decide) 0 _, Kd.Q_set HQ.out.2.1 HG.out (by decide) 0 _, Kd.R_set HQ.out.2.2 HG.out (by decide) 0 _⟩, ⟨?_⟩, ⟨?_⟩⟩
       ·rw [← HM.out, HWK.out, Option.map_map]
        congr 1
        funext x
        simp
       ·have hb := HB.out
        refine ⟨by have := hb.1; simp only [List.length_cons, List.length_nil] at this ⊢; omega, by have := hb.2.1; simp only [List.length_append, List.length_singleton]; omega, fun x hx => hb.2.2.1 x (List.mem_cons_of_mem _ hx), hb.2.2.2⟩
   ·by_cases hi : hdK 4 qs = true
    ·cases qs with
     | nil => exact absurd hi (by simp [hdK])
     | cons o r =>
      have hk : o.f0 = 4 := by simpa [hdK] using hi
      have hwalk : walkO (n + 1) ps (o :: r) op = (walkO n ps r op).map (⟨o, 2, false⟩ :: ·) := by
       rw [walkO, if_neg HZ.out, if_neg hd, if_pos hi]; rfl
      have HWK := Aside0.mk hwalk
      have d2 : (o.f0 == 4) = true := beq_iff_eq.mpr hk
      clear hi hk hwalk HZ
      rcases ps with _ | ⟨o2, r2⟩
      ·skip
       clear hd
       obtain ⟨h1, h2, pv, qv, ov, h3, h4, h5, h6⟩ := HW.out
       obtain ⟨Ap, cp, rfl, _⟩ := Kd.Q_slice h4
       obtain ⟨gb, off2, cap2, _, _, m2, hm20, hm2, rfl, z0, z1, z2, _, _, _⟩ := head_q h5
       have x0 : wr.cell? ⟨g, 0, none⟩ = some (.slice Ap 0 cp) := (blk_cell h3 0).trans rfl
       have x1 : wr.cell? ⟨g, 1, none⟩ = some (.slice (some ⟨gb, off2, none⟩) m2 cap2) := (blk_cell h3 1).trans rfl
       have k0 : ((0 : Int) < (m2 : Int)) = True := eq_true (by omega)
       have k1 : (0 < m2) = True := eq_true hm20
       simp only [List.length_cons, List.length_nil] at hsum hpos
       rw [← hm2] at hsum hpos
       clear h1 h2 h3 h4 h5 h6 hm2
       go_wp2_with fail
       go_quiet (fail)
       go_wp2_with fail
       refine (wk_put w _ g [] (o :: r) op os (HW.out.below (pw_below_drewN (Below.refl _ _) _)) HL.out o 2).mono ?_
       rintro e w7 ⟨⟨r7, rfl⟩, hW⟩
       clear x0 x1 k0 k1 z0 z1 z2 hm20
       obtain ⟨h1, h2, pv, qv, ov, h3, h4, h5, h6⟩ := hW
       obtain ⟨ga, off, cap, A1, c1', m, hm0, hm, rfl, y0, y1, y2, hcut, hown, hq⟩ := head_q h5
       obtain ⟨Ax, cx, rfl, _⟩ := Kd.Q_slice h4
       have x1 : w7.cell? ⟨g, 1, none⟩ = some (.slice (some ⟨ga, off, none⟩) m cap) := (blk_cell h3 1).trans rfl
       have xf := blk_frozen h3 1
       have HG := Aside0.mk h3
       have H1 := Aside0.mk h1
       have H2 := Aside0.mk h2
       have HQ := Aside0.mk (And.intro (Kd.Q_mono (ok' := fun k => some k ≠ (Value.slice A1 r.length c1').ownBlock) h4 (fun k hk => by rw [hown]; exact hk)) (And.intro (Kd.Q_mono (ok' := fun k => some k ≠ (Value.slice Ax ([]).length cx).ownBlock) hq (fun k hk => hk)) h6))
       clear h1 h2 h3 h4 h5 h6 hq hown y0 y1 y2 hm hm0
       go_wp2_with fail
       go_roundg n
       case measure => omega
       case rel =>
        refine ⟨[], r, op, os ++ [⟨o, 2, false⟩], ⟨below_set H1.out H2.out, H2.out, _, _, _, (by simpa using blk_set HG.out 1 (.slice A1 r.length c1')), Kd.Q_set HQ.out.1 HG.out (by decide) 1 _, Kd.Q_set HQ.out.2.1 HG.out (by decide) 1 _, Kd.R_set HQ.out.2.2 HG.out (by decide) 1 _⟩, ⟨?_⟩, ⟨?_⟩⟩
        ·rw [← HM.out, HWK.out, Option.map_map]
         congr 1
         funext x
         simp
        ·have hb := HB.out
         refine ⟨by have := hb.1; simp only [List.length_cons, List.length_nil] at this ⊢; omega, by have := hb.2.1; simp only [List.length_append, List.length_singleton]; omega, hb.2.2.1, fun x hx => hb.2.2.2 x (List.mem_cons_of_mem _ hx)⟩
      ·skip
       have d1 : (o2.f0 == 3) = false := beq_eq_false_iff_ne.mpr (by simpa [hdK] using hd)
       clear hd
       obtain ⟨h1, h2, pv, qv, ov, h3, h4, h5, h6⟩ := HW.out
       obtain ⟨ga, off, cap, _, _, m, hm0, hm, rfl, y0, y1, y2, _, _, _⟩ := head_q h4
       obtain ⟨gb, off2, cap2, _, _, m2, hm20, hm2, rfl, z0, z1, z2, _, _, _⟩ := head_q h5
       have x0 : wr.cell? ⟨g, 0, none⟩ = some (.slice (some ⟨ga, off, none⟩) m cap) := (blk_cell h3 0).trans rfl
       have x1 : wr.cell? ⟨g, 1, none⟩ = some (.slice (some ⟨gb, off2, none⟩) m2 cap2) := (blk_cell h3 1).trans rfl
       have i0 : ((0 : Int) < (m : Int)) = True := eq_true (by omega)
       have i1 : (0 < m) = True := eq_true hm0
       have k0 : ((0 : Int) < (m2 : Int)) = True := eq_true (by omega)
       have k1 : (0 < m2) = True := eq_true hm20
       simp only [List.length_cons, List.length_nil] at hsum hpos
       rw [← hm] at hsum hpos
       rw [← hm2] at hsum hpos
       clear h1 h2 h3 h4 h5 h6 hm hm2
       go_wp2_with fail
       go_quiet (fail)
       go_wp2_with fail
       refine (wk_put w _ g (o2 :: r2) (o :: r) op os (HW.out.below (pw_below_drewN (Below.refl _ _) _)) HL.out o 2).mono ?_
       rintro e w7 ⟨⟨r7, rfl⟩, hW⟩
       clear x0 x1 i0 i1 y0 y1 y2 hm0 k0 k1 z0 z1 z2 hm20
       obtain ⟨h1, h2, pv, qv, ov, h3, h4, h5, h6⟩ := hW
       obtain ⟨ga, off, cap, A1, c1', m, hm0, hm, rfl, y0, y1, y2, hcut, hown, hq⟩ := head_q h5
       obtain ⟨Ax, cx, rfl, _⟩ := Kd.Q_slice h4
       have x1 : w7.cell? ⟨g, 1, none⟩ = some (.slice (some ⟨ga, off, none⟩) m cap) := (blk_cell h3 1).trans rfl
       have xf := blk_frozen h3 1
       have HG := Aside0.mk h3
       have H1 := Aside0.mk h1
       have H2 := Aside0.mk h2
       have HQ := Aside0.mk (And.intro (Kd.Q_mono (ok' := fun k => some k ≠ (Value.slice A1 r.length c1').ownBlock) h4 (fun k hk => by rw [hown]; exact hk)) (And.intro (Kd.Q_mono (ok' := fun k => some k ≠ (Value.slice Ax ((o2 :: r2)).length cx).ownBlock) hq (fun k hk => hk)) h6))
       clear h1 h2 h3 h4 h5 h6 hq hown y0 y1 y2 hm hm0
       go_wp2_with fail
       go_roundg n
       case measure => omega
       case rel =>
        refine ⟨(o2 :: r2), r, op, os ++ [⟨o, 2, false⟩], ⟨below_set H1.out H2.out, H2.out, _, _, _, (by simpa using blk_set HG.out 1 (.slice A1 r.length c1')), Kd.Q_set HQ.out.1 HG.out (by decide) 1 _, Kd.Q_set HQ.out.2.1 HG.out (by decide) 1 _, Kd.R_set HQ.out.2.2 HG.out (by decide) 1 _⟩, ⟨?_⟩, ⟨?_⟩⟩
        ·rw [← HM.out, HWK.out, Option.map_map]
         congr 1
         funext x
         simp
        ·have hb := HB.out
         refine ⟨by have := hb.1; simp only [List.length_cons, List.length_nil] at this ⊢; omega, by have := hb.2.1; simp only [List.length_append, List.length_singleton]; omega, hb.2.2.1, fun x hx => hb.2.2.2 x (List.mem_cons_of_mem _ hx)⟩
    ·skip
     have HNO := Aside0.mk (And.intro hd hi)
     have hwalk : walkO (n + 1) ps qs op = if noneL (nextL ps 2147483648) (nextL qs 2147483648) op = true then none else (walkO n (dropL ps (lineL (nextL ps 2147483648) (nextL qs 2147483648)).2.1) (dropL qs (lineL (nextL ps 2147483648) (nextL qs 2147483648)).2.1) (opnB (lineL (nextL ps 2147483648) (nextL qs 2147483648)).1)).map ((lineL (nextL ps 2147483648) (nextL qs 2147483648)).2.2 :: ·) := by
      rw [walkO, if_neg HZ.out, if_neg hd, if_neg hi]
     have HWK := Aside0.mk hwalk
     clear hwalk
     have ht1 := okW_text (l := ps) HB.out.2.2.1
     have ht2 := okW_text (l := qs) HB.out.2.2.2
     have HT := Aside0.mk (And.intro ht1 ht2)
     clear ht1 ht2
     rcases ps with _ | ⟨o, r⟩ <;> rcases qs with _ | ⟨o2, r2⟩
     ·skip
      exact absurd rfl HZ.out
     ·skip
      clear HZ
      have d2 : (o2.f0 == 4) = false := beq_eq_false_iff_ne.mpr (by simpa [hdK] using hi)
      clear hd hi HNO
      obtain ⟨h1, h2, pv, qv, ov, h3, h4, h5, h6⟩ := HW.out
      obtain ⟨Ap, cp, rfl, _⟩ := Kd.Q_slice h4
      obtain ⟨gb, off2, cap2, _, _, m2, hm20, hm2, rfl, z0, z1, z2, _, _, _⟩ := head_q h5
      have x0 : wr.cell? ⟨g, 0, none⟩ = some (.slice Ap 0 cp) := (blk_cell h3 0).trans rfl
      have x1 : wr.cell? ⟨g, 1, none⟩ = some (.slice (some ⟨gb, off2, none⟩) m2 cap2) := (blk_cell h3 1).trans rfl
      have k0 : ((0 : Int) < (m2 : Int)) = True := eq_true (by omega)
      have k1 : (0 < m2) = True := eq_true hm20
      simp only [List.length_cons, List.length_nil] at hsum hpos
      rw [← hm2] at hsum hpos
      clear h1 h2 h3 h4 h5 h6 hm2
      go_wp2_with fail
      go_quiet (fail)
      go_wp2_with fail
      refine (middle_walk w _ g [] (o2 :: r2) op os (HW.out.below (pw_below_drewN (Below.refl _ _) _)) HL.out HT.out.1 HT.out.2).mono ?_
      rintro e w7 (⟨n1, rfl, n3⟩ | ⟨n1, rfl, n3⟩)
      ·have HN := Aside0.mk (And.intro n1 n3)
       clear n1 n3 x0 x1 k0 k1 z0 z1 z2 hm20
       go_wp2_with fail
       go_ret2
       have e1 := HM.out
       rw [HWK.out, if_pos HN.out.1] at e1
       have e2 := HH.out
       rw [← e1] at e2
       obtain ⟨rfl, rfl⟩ := Prod.mk.inj (Option.some.inj e2)
       exact ⟨_, rfl, Kd.R_nil _ _ _ _ _, HN.out.2⟩
      ·have HN := Aside0.mk (And.intro n1 n3)
       clear n1 n3 x0 x1 k0 k1 z0 z1 z2 hm20
       go_wp2_with fail
       go_roundg n
       case measure => omega
       case rel =>
        have e1 := HM.out
        rw [HWK.out, if_neg (by rw [HN.out.1]; simp), Option.map_map] at e1
        refine ⟨_, _, _, _, ⟨HN.out.2⟩, ⟨?_⟩, ⟨?_⟩⟩
        ·rw [← e1]
         refine congrArg (fun f => Option.map f _) ?_
         funext x
         simp
        ·exact okW_drop HB.out (by simp) HN.out.1
     ·skip
      clear HZ
      have d1 : (o.f0 == 3) = false := beq_eq_false_iff_ne.mpr (by simpa [hdK] using hd)
      clear hd hi HNO
      obtain ⟨h1, h2, pv, qv, ov, h3, h4, h5, h6⟩ := HW.out
      obtain ⟨ga, off, cap, _, _, m, hm0, hm, rfl, y0, y1, y2, _, _, _⟩ := head_q h4
      obtain ⟨Aq, cq, rfl, _⟩ := Kd.Q_slice h5
      have x0 : wr.cell? ⟨g, 0, none⟩ = some (.slice (some ⟨ga, off, none⟩) m cap) := (blk_cell h3 0).trans rfl
      have x1 : wr.cell? ⟨g, 1, none⟩ = some (.slice Aq 0 cq) := (blk_cell h3 1).trans rfl
      have i0 : ((0 : Int) < (m : Int)) = True := eq_true (by omega)
      have i1 : (0 < m) = True := eq_true hm0
      simp only [List.length_cons, List.length_nil] at hsum hpos
      rw [← hm] at hsum hpos
      clear h1 h2 h3 h4 h5 h6 hm
      go_wp2_with fail
      go_quiet (fail)
      go_wp2_with fail
      refine (middle_walk w _ g (o :: r) [] op os (HW.out.below (pw_below_drewN (Below.refl _ _) _)) HL.out HT.out.1 HT.out.2).mono ?_
      rintro e w7 (⟨n1, rfl, n3⟩ | ⟨n1, rfl, n3⟩)
      ·have HN := Aside0.mk (And.intro n1 n3)
       clear n1 n3 x0 x1 i0 i1 y0 y1 y2 hm0
       go_wp2_with fail
       go_ret2
       have e1 := HM.out
       rw [HWK.out, if_pos HN.out.1] at e1
       have e2 := HH.out
       rw [← e1] at e2
       obtain ⟨rfl, rfl⟩ := Prod.mk.inj (Option.some.inj e2)
       exact ⟨_, rfl, Kd.R_nil _ _ _ _ _, HN.out.2⟩
      ·have HN := Aside0.mk (And.intro n1 n3)
       clear n1 n3 x0 x1 i0 i1 y0 y1 y2 hm0
       go_wp2_with fail
       go_roundg n
       case measure => omega
       case rel =>
        have e1 := HM.out
        rw [HWK.out, if_neg (by rw [HN.out.1]; simp), Option.map_map] at e1
        refine ⟨_, _, _, _, ⟨HN.out.2⟩, ⟨?_⟩, ⟨?_⟩⟩
        ·rw [← e1]
         refine congrArg (fun f => Option.map f _) ?_
         funext x
         simp
        ·exact okW_drop HB.out (by simp) HN.out.1
     ·skip
      clear HZ
      have d1 : (o.f0 == 3) = false := beq_eq_false_iff_ne.mpr (by simpa [hdK] using hd)
      have d2 : (o2.f0 == 4) = false := beq_eq_false_iff_ne.mpr (by simpa [hdK] using hi)
      clear hd hi HNO
      obtain ⟨h1, h2, pv, qv, ov, h3, h4, h5, h6⟩ := HW.out
      obtain ⟨ga, off, cap, _, _, m, hm0, hm, rfl, y0, y1, y2, _, _, _⟩ := head_q h4
      obtain ⟨gb, off2, cap2, _, _, m2, hm20, hm2, rfl, z0, z1, z2, _, _, _⟩ := head_q h5
      have x0 : wr.cell? ⟨g, 0, none⟩ = some (.slice (some ⟨ga, off, none⟩) m cap) := (blk_cell h3 0).trans rfl
      have x1 : wr.cell? ⟨g, 1, none⟩ = some (.slice (some ⟨gb, off2, none⟩) m2 cap2) := (blk_cell h3 1).trans rfl
      have i0 : ((0 : Int) < (m : Int)) = True := eq_true (by omega)
      have i1 : (0 < m) = True := eq_true hm0
      have k0 : ((0 : Int) < (m2 : Int)) = True := eq_true (by omega)
      have k1 : (0 < m2) = True := eq_true hm20
      simp only [List.length_cons, List.length_nil] at hsum hpos
      rw [← hm] at hsum hpos
      rw [← hm2] at hsum hpos
      clear h1 h2 h3 h4 h5 h6 hm hm2
      go_wp2_with fail
      go_quiet (fail)
      go_wp2_with fail
      refine (middle_walk w _ g (o :: r) (o2 :: r2) op os (HW.out.below (pw_below_drewN (Below.refl _ _) _)) HL.out HT.out.1 HT.out.2).mono ?_
      rintro e w7 (⟨n1, rfl, n3⟩ | ⟨n1, rfl, n3⟩)
      ·have HN := Aside0.mk (And.intro n1 n3)
       clear n1 n3 x0 x1 i0 i1 y0 y1 y2 hm0 k0 k1 z0 z1 z2 hm20
       go_wp2_with fail
       go_ret2
       have e1 := HM.out
       rw [HWK.out, if_pos HN.out.1] at e1
       have e2 := HH.out
       rw [← e1] at e2
       obtain ⟨rfl, rfl⟩ := Prod.mk.inj (Option.some.inj e2)
       exact ⟨_, rfl, Kd.R_nil _ _ _ _ _, HN.out.2⟩
      ·have HN := Aside0.mk (And.intro n1 n3)
       clear n1 n3 x0 x1 i0 i1 y0 y1 y2 hm0 k0 k1 z0 z1 z2 hm20
       go_wp2_with fail
       go_roundg n
       case measure => omega
       case rel =>
        have e1 := HM.out
        rw [HWK.out, if_neg (by rw [HN.out.1]; simp), Option.map_map] at e1
        refine ⟨_, _, _, _, ⟨HN.out.2⟩, ⟨?_⟩, ⟨?_⟩⟩
        ·rw [← e1]
         refine congrArg (fun f => Option.map f _) ?_
         funext x
         simp
        ·exact okW_drop HB.out (by simp) HN.out.1
end Go.Proofs.Ytfoponahdidddaa.P
namespace Go.Proofs.Ytfoponahdidddaa.P
open Go.RowKit Go.Proofs.YtfoponahdidddaaW.PrintWords Go.Proofs.YtfoponahdidddaaW.PrintLast Go.Proofs.YtfoponahdidddaaW.PrintMore
attribute [local go_sem] max2_int min2_int max_two min_two max_three min_three max_four min_four
theorem compose_Walk.calls (k : Nat) (A0 : Option Addr) (c0 : Nat) (l0 : List (Op)) (A1 : Option Addr) (c1 : Nat) (l1 : List (Op)) (r1 : List (Step)) (r2 : Bool) (w : World) (hr0 : Kd.C kOp w A0 l0.length l0) (hc0 : l0.length ≤ c0) (hr1 : Kd.C kOp w A1 l1.length l1) (hc1 : l1.length ≤ c1) (h : compose_Walk.f k l0 l1 = some (r1, r2)) :
  Calls Try.prog 36 #[.slice A0 l0.length c0, .slice A1 l1.length c1] w fun e w' => ∃ v0_ : Value, e = .returned (.tuple #[v0_, .bool r2]) ∧ Kd.R kStep 77 w' w.heap.size (fun _ => True) v0_ r1 ∧ Below w.heap.size w w' := by
 unfold compose_Walk.f at h
 obtain ⟨t0, h0, h⟩ := Option.bind_eq_some_iff.mp h
 cases t0 with
 | false =>
  obtain ⟨rfl, rfl⟩ := Prod.mk.inj (Option.some.inj h)
  exact walk_no0 k A0 c0 l0 A1 c1 l1 w hr0 hc0 h0
 | true =>
  obtain ⟨t1, h1, h⟩ := Option.bind_eq_some_iff.mp h
  cases t1 with
  | false =>
   obtain ⟨rfl, rfl⟩ := Prod.mk.inj (Option.some.inj h)
   exact walk_no1 k A0 c0 l0 A1 c1 l1 w hr0 hc0 hr1 hc1 h0 h1
  | true =>
   simp only [if_true] at h
   split at h
   ·rename_i e2
    exact walk_yes k A0 c0 l0 A1 c1 l1 r1 r2 w hr0 hc0 hr1 hc1 h0 h1 e2 h
   ·exact absurd h (by simp)
end Go.Proofs.Ytfoponahdidddaa.P
namespace Go.Proofs.Ytfoponahdidddaa.P
open Go.RowKit Go.Proofs.YtfoponahdidddaaW.PrintWords Go.Proofs.YtfoponahdidddaaW.PrintLast Go.Proofs.YtfoponahdidddaaW.PrintMore
attribute [local go_sem] max2_int min2_int max_two min_two
theorem info_str : (Try.prog.info? 9).map (fun i => (i.zero, i.size, i.bytes)) = some (some (.string ⟨#[]⟩), 1, 16) := by kernel_rfl
theorem OutW.start (w : World) : OutW w (w.alloc (.cells #[.slice none 0 0] 22)) w.heap.size [] :=
 ⟨below_alloc (Below.refl _ _) _, Nat.le_refl _, _, by simpa using heap_alloc_new w _, Kd.R_nil _ _ _ _ _⟩
theorem OutW.below {w wr w' : World} {gb : Nat} {xs : List Op} (h : OutW w wr gb xs) (hb : Below wr.heap.size wr w') : OutW w w' gb xs := by
 obtain ⟨h1, h2, v, h3, h4⟩ := h
 refine ⟨below_step h1 hb, h2, v, ?_, Kd.R_below h4 hb⟩
 rw [hb.block _ (blk_lt h3)]; exact h3
set_option maxHeartbeats 4000000 in
set_option maxRecDepth 100000 in
theorem lcs_Diff_walk (A0 : Option Addr) (c0 : Nat) (a : List ByteArray) (A1 : Option Addr) (c1 : Nat) (b : List ByteArray) (w : World) (hr0 : Kd.C Kd.string w A0 a.length a) (hc0 : a.length ≤ c0) (hr1 : Kd.C Kd.string w A1 b.length b) (hc1 : b.length ≤ c1) (ha : a.length ≤ 1000000) (hb : b.length ≤ 1000000) :
  Calls Try.prog 74 #[.slice A0 a.length c0, .slice A1 b.length c1] w fun e w' => ∃ v0_ : Value, e = .returned v0_ ∧ Kd.R kOp 41 w' w.heap.size (fun _ => True) v0_ (diffOps a b) ∧ Below w.heap.size w w' := by
 have HR0 := Aside0.mk hr0
 have HR1 := Aside0.mk hr1
 have HC0 := Aside0.mk hc0
 have HC1 := Aside0.mk hc1
 clear hr0 hr1 hc0 hc1
 have la0 : (a.length : Int) ≤ 1000000 := by omega
 have lb0 : (b.length : Int) ≤ 1000000 := by omega
 go_enter Try.func74, Try.ntmps74
 go_wp2_with fail
 have O0 := OutW.start w
 generalize w.alloc (.cells #[.slice none 0 0] 22) = wa at O0 ⊢
 obtain ⟨K, hK⟩ := (ahead_ev a b ha hb).rounds
 refine (lcs_ahead.calls K A0 c0 a A1 c1 b _ wa (Kd.C_below HR0.out O0.1) HC0.out (Kd.C_below HR1.out O0.1) HC1.out hK).mono ?_
 rintro e w1 ⟨rfl, ⟨n1, rfl⟩⟩
 obtain ⟨n, hn⟩ : ∃ n, n = aheadN a b := ⟨_, rfl⟩
 have hle := aheadN_le a b
 rw [← hn] at hle ⊢
 have hla := hle.1
 have hlb := hle.2
 obtain ⟨i0, hi0, _, hsz0, _⟩ := info_parts info_str
 have hct := cut_to (P := Try.prog) 32 9 .i64 Try.underlying32 hi0 A0 a.length c0 (n : Int) (by omega) (by omega) HC0.out
 rw [Int.toNat_natCast] at hct
 have HN := Aside0.mk hn
 have HO0 := Aside0.mk O0
 have HI0 := Aside0.mk hi0
 have HS0 := Aside0.mk hsz0
 clear hn O0 hK hle hi0 hsz0
 go_wp2_with fail
 go_loopg [21] n (fun g s21 wx => ∃ (k : Nat), s21 = .int .i64 (k : Int) ∧ Aside0 (k + g = n) ∧ Aside0 (OutW w wx w.heap.size ((a.take k).map fun t => (⟨2, 0, t⟩ : Op))))
 case atStart => exact ⟨0, rfl, ⟨by omega⟩, ⟨by simpa using HO0.out.drewN n1⟩⟩
 case round =>
  clear HO0
  obtain ⟨k, rfl, HKG, HO⟩ := hrel
  cases gk with
  | succ g =>
   have hkn : k < n := by have := HKG.out; omega
   have hka : k < a.length := by omega
   have hk0 : (k : Int) < (a.length : Int) := by omega
   have hk1 : (k : Int) < (n : Int) := by omega
   have hk2 : (0 : Int) ≤ (k : Int) := by omega
   obtain ⟨ad1, e1, hx1⟩ := Kd.at_string HR0.out (k : Int) (by omega) hk0
   cases e1
   replace hx1 := (HO.out.1.cell (World.block_lt_of_cell? w _ hx1)).trans hx1
   rw [Int.toNat_natCast, rd_getElem hka] at hx1
   generalize ht : a[k] = tx at hx1
   have HTX := Aside0.mk ht
   clear ht
   go_wp2_with fail
   refine (put_walk w _ w.heap.size _ HO.out (by simp; omega) 2 tx).mono ?_
   rintro e w2 ⟨⟨r, rfl⟩, hO, hKT⟩
   have HO2 := Aside0.mk hO
   clear hO hKT hx1
   go_wp2
   go_roundg g
   case measure => omega
   case rel => exact ⟨k + 1, (by first | rfl | (simp; done)), ⟨by have := HKG.out; omega⟩, ⟨by rw [List.take_succ_eq_append_getElem hka, List.map_append, HTX.out]; exact HO2.out⟩⟩
  | zero =>
   obtain rfl : k = n := by have := HKG.out; omega
   clear hct HKG
   obtain ⟨a', ha'⟩ : ∃ x, x = a.drop k := ⟨_, rfl⟩
   obtain ⟨b', hb'⟩ : ∃ x, x = b.drop k := ⟨_, rfl⟩
   have hla' : a'.length = a.length - k := by rw [ha']; simp
   have hlb' : b'.length = b.length - k := by rw [hb']; simp
   have hcf0 := cut_from (P := Try.prog) 32 9 .i64 Try.underlying32 HI0.out 1 HS0.out A0 a.length c0 (k : Int) (by omega) (by omega)
   have hcf1 := cut_from (P := Try.prog) 32 9 .i64 Try.underlying32 HI0.out 1 HS0.out A1 b.length c1 (k : Int) (by omega) (by omega)
   have hr0 := Kd.C_drop (c := c0) HR0.out hla HC0.out
   have hr1 := Kd.C_drop (c := c1) HR1.out hlb HC1.out
   rw [Int.toNat_natCast] at hcf0 hcf1
   obtain ⟨A0', hA0⟩ : ∃ A', A' = (if c0 = k then A0 else A0.map (·.add (k * 1))) := ⟨_, rfl⟩
   obtain ⟨A1', hA1⟩ : ∃ A', A' = (if c1 = k then A1 else A1.map (·.add (k * 1))) := ⟨_, rfl⟩
   obtain ⟨c0', hcc0⟩ : ∃ x, x = c0 - k := ⟨_, rfl⟩
   obtain ⟨c1', hcc1⟩ : ∃ x, x = c1 - k := ⟨_, rfl⟩
   rw [← hA0, ← hla', ← hcc0] at hcf0
   rw [← hA1, ← hlb', ← hcc1] at hcf1
   replace hr0 : Kd.C Kd.string w A0' a'.length a' := by rw [hA0, ha']; exact hr0
   replace hr1 : Kd.C Kd.string w A1' b'.length b' := by rw [hA1, hb']; exact hr1
   have HR0' := Aside0.mk hr0
   have HR1' := Aside0.mk hr1
   have hD : (a.take k).map (fun t => (⟨2, 0, t⟩ : Op)) ++ diffOps a' b' = diffOps a b := by
    rw [ha', hb', HN.out]; exact (diffOps_ahead a b).symm
   have HD := Aside0.mk hD
   have hla2 : a'.length ≤ 1000000 := by omega
   have hlb2 : b'.length ≤ 1000000 := by omega
   generalize (a.take k).map (fun t => (⟨2, 0, t⟩ : Op)) = out0 at HO HD
   have HDL := Aside0.mk (diffOps_len a b)
   have HDB := Aside0.mk (show a.length + b.length ≤ 2000000 by omega)
   clear hr0 hr1 hA0 hA1 hcc0 hcc1 ha' hb' hD HR0 HR1 HC0 HC1 HI0 HS0 HN hla' hlb' hla hlb la0 lb0
   have la0 : (a'.length : Int) ≤ 1000000 := by omega
   have lb0 : (b'.length : Int) ≤ 1000000 := by omega
   clear ha hb
   go_wp2_with fail
   go_quiet (fail)
   go_wp2_with fail
   refine (lcs_of_walk A0' c0' a' A1' c1' b' _ (Kd.C_below (Kd.C_below HR0'.out HO.out.1) (pw_below_drewN (Below.refl _ _) _)) (Kd.C_below (Kd.C_below HR1'.out HO.out.1) (pw_below_drewN (Below.refl _ _) _)) hla2 hlb2).mono ?_
   rintro e w3 ⟨g, gt, tab, rfl, hT, hG⟩
   have HO2 := Aside0.mk ((HO.out.drewN _).below hT.1)
   have HT := Aside0.mk hT.tab
   have HG := Aside0.mk hG
   clear hT hG HO
   go_wp2_with fail
   go_loopg [11, 12] (a'.length + b'.length) (fun gh s11 s12 wx => ∃ (i j : Nat) (xs : List Op), s11 = .int .i64 (i : Int) ∧ s12 = .int .i64 (j : Int) ∧ Aside0 (i ≤ a'.length ∧ j ≤ b'.length ∧ a'.length + b'.length ≤ i + j + gh) ∧ Aside0 (xs ++ diffOps (a'.drop i) (b'.drop j) = diffOps a b) ∧ Aside0 (OutW w wx w.heap.size xs) ∧ Aside0 (TabB wx g gt ((b'.length : Int) + 1) tab))
   case atStart => exact ⟨0, 0, out0, rfl, rfl, ⟨by omega⟩, ⟨by simpa using HD.out⟩, HO2, HT⟩
   case round =>
    clear HO2 HT HD out0
    obtain ⟨i, j, xs, rfl, rfl, HIJ, HD, HO, HT⟩ := hrel
    have hil : i ≤ a'.length := HIJ.out.1
    have hjl : j ≤ b'.length := HIJ.out.2.1
    have hxl : xs.length < 4398046511104 := by
     have h1 := congrArg List.length HD.out
     have h2 := HDL.out
     have h3 := HDB.out
     simp only [List.length_append] at h1
     omega
    have HXL := Aside0.mk hxl
    clear hxl
    by_cases hi : i < a'.length
    ·have hiI : (i : Int) < (a'.length : Int) := by omega
     have hi0 : (0 : Int) ≤ (i : Int) := by omega
     obtain ⟨ad1, e1, hx1⟩ := Kd.at_string HR0'.out (i : Int) hi0 hiI
     cases e1
     replace hx1 := (HO.out.1.cell (World.block_lt_of_cell? w _ hx1)).trans hx1
     rw [Int.toNat_natCast, rd_getElem hi] at hx1
     obtain ⟨tx, htx⟩ : ∃ t, t = a'[i] := ⟨_, rfl⟩
     rw [← htx] at hx1
     have HTX := Aside0.mk htx
     clear htx
     by_cases hj : j < b'.length
     ·have hjI : (j : Int) < (b'.length : Int) := by omega
      have hj0 : (0 : Int) ≤ (j : Int) := by omega
      obtain ⟨ad2, e2, hx2⟩ := Kd.at_string HR1'.out (j : Int) hj0 hjI
      cases e2
      replace hx2 := (HO.out.1.cell (World.block_lt_of_cell? w _ hx2)).trans hx2
      rw [Int.toNat_natCast, rd_getElem hj] at hx2
      obtain ⟨ty, hty⟩ : ∃ t, t = b'[j] := ⟨_, rfl⟩
      rw [← hty] at hx2
      have HTY := Aside0.mk hty
      clear hty
      by_cases heq : tx.toList = ty.toList
      ·have heq0 : (tx.toList == ty.toList) = true := beq_iff_eq.mpr heq
       have HEQ := Aside0.mk heq
       clear heq
       go_wp2_with fail
       go_quiet (fail)
       go_wp2_with fail
       refine (put_walk w _ w.heap.size xs (HO.out.drewN _) HXL.out 2 tx).mono ?_
       rintro e w4 ⟨⟨r, rfl⟩, hO, hKT⟩
       have HO3 := Aside0.mk hO
       have HT3 := Aside0.mk ((HT.out.drewN _).keepT hKT)
       clear hO hKT hx1 hx2 HO HT heq0
       cases gk with
       | zero => exact absurd HIJ.out.2.2 (by omega)
       | succ gh =>
        go_wp2
        go_roundg gh
        case measure => omega
        case rel => exact ⟨i + 1, j + 1, _, (by first | rfl | (simp; done)), (by first | rfl | (simp; done)), ⟨by have := HIJ.out; omega⟩, ⟨by rw [← HD.out, List.drop_eq_getElem_cons hi, List.drop_eq_getElem_cons hj, ← HTX.out, ← HTY.out, text_eq HEQ.out, diffOps_same]; simp⟩, HO3, HT3⟩
      ·have heq0 : (tx.toList == ty.toList) = false := beq_eq_false_iff_ne.mpr heq
       have HEQ := Aside0.mk heq
       clear heq
       obtain ⟨V1, hV1⟩ : ∃ V : Int, V = tabL a' b' (i + 1) j := ⟨_, rfl⟩
       obtain ⟨V2, hV2⟩ : ∃ V : Int, V = tabL a' b' i (j + 1) := ⟨_, rfl⟩
       have HC1 := Aside0.mk ((HG.out.2 (i + 1) j (by omega) (by omega) (by omega)).trans hV1.symm)
       have HC2 := Aside0.mk ((HG.out.2 i (j + 1) (by omega) (by omega) (by omega)).trans hV2.symm)
       have HV1 := Aside0.mk hV1
       have HV2 := Aside0.mk hV2
       have P1 : ((i : Int) + 1) * ((b'.length : Int) + 1) ≤ 1000000 * 1000001 := Int.mul_le_mul (by omega) (by omega) (by omega) (by omega)
       have P2 : (i : Int) * ((b'.length : Int) + 1) ≤ 1000000 * 1000001 := Int.mul_le_mul (by omega) (by omega) (by omega) (by omega)
       have P3 : 0 ≤ (i : Int) * ((b'.length : Int) + 1) := Int.mul_nonneg (by omega) (by omega)
       have P4 : 0 ≤ ((i : Int) + 1) * ((b'.length : Int) + 1) := Int.mul_nonneg (by omega) (by omega)
       have HP := Aside0.mk (And.intro P1 (And.intro P2 (And.intro P3 P4)))
       clear P1 P2 P3 P4 hV1 hV2
       have hjb : ((j : Int) == (b'.length : Int)) = false := beq_eq_false_iff_ne.mpr (by omega)
       have hjb' : (j == b'.length) = false := beq_eq_false_iff_ne.mpr (by omega)
       by_cases hge : V2 ≤ V1
       ·have hge0 : decide (V2 ≤ V1) = true := decide_eq_true hge
        have HGE := Aside0.mk hge
        clear hge
        go_wp2_with fail
        go_quiet (fail)
        go_wp2_with fail
        refine (tabB_read (HT.out.drewN _) ((i : Int) + 1) (j : Int) ((i + 1) * (b'.length + 1) + j) (by simp) (by have := HP.out; omega) HP.out.2.2.2 (by omega) (by omega) (by rw [HG.out.1]; exact idx_lt (by omega) (by omega)) V1 HC1.out).mono ?_
        rintro e w4 ⟨rfl, ⟨n4, rfl⟩⟩
        go_wp2_with fail
        refine (tabB_read (HT.out.drewN _) (i : Int) ((j : Int) + 1) (i * (b'.length + 1) + (j + 1)) (by simp) (by have := HP.out; omega) HP.out.2.2.1 (by omega) (by omega) (by rw [HG.out.1]; exact idx_lt (by omega) (by omega)) V2 HC2.out).mono ?_
        rintro e w5 ⟨rfl, ⟨n5, rfl⟩⟩
        go_wp2_with fail
        refine (put_walk w _ w.heap.size xs (HO.out.drewN _) HXL.out 3 tx).mono ?_
        rintro e w6 ⟨⟨r, rfl⟩, hO, hKT⟩
        have HO3 := Aside0.mk hO
        have HT3 := Aside0.mk ((HT.out.drewN _).keepT hKT)
        clear hO hKT hx1 hx2 HO HT heq0 hge0 hjb hjb'
        cases gk with
        | zero => exact absurd HIJ.out.2.2 (by omega)
        | succ gh =>
         go_wp2
         go_roundg gh
         case measure => omega
         case rel => exact ⟨i + 1, j, _, (by first | rfl | (simp; done)), (by first | rfl | (simp; done)), ⟨by have := HIJ.out; omega⟩, ⟨by
          rw [← HD.out, List.drop_eq_getElem_cons hi, List.drop_eq_getElem_cons hj, ← HTX.out, ← HTY.out, diffOps_del (fun e => HEQ.out (by rw [e]))]
          ·simp
          ·have h1 := HGE.out
           rw [HV1.out, HV2.out] at h1
           unfold tabL at h1
           rw [List.drop_eq_getElem_cons hi, List.drop_eq_getElem_cons hj, ← HTX.out, ← HTY.out] at h1
           omega⟩, HO3, HT3⟩
       ·have hge0 : decide (V2 ≤ V1) = false := decide_eq_false hge
        have HGE := Aside0.mk hge
        clear hge
        go_wp2_with fail
        go_quiet (fail)
        go_wp2_with fail
        refine (tabB_read (HT.out.drewN _) ((i : Int) + 1) (j : Int) ((i + 1) * (b'.length + 1) + j) (by simp) (by have := HP.out; omega) HP.out.2.2.2 (by omega) (by omega) (by rw [HG.out.1]; exact idx_lt (by omega) (by omega)) V1 HC1.out).mono ?_
        rintro e w4 ⟨rfl, ⟨n4, rfl⟩⟩
        go_wp2_with fail
        refine (tabB_read (HT.out.drewN _) (i : Int) ((j : Int) + 1) (i * (b'.length + 1) + (j + 1)) (by simp) (by have := HP.out; omega) HP.out.2.2.1 (by omega) (by omega) (by rw [HG.out.1]; exact idx_lt (by omega) (by omega)) V2 HC2.out).mono ?_
        rintro e w5 ⟨rfl, ⟨n5, rfl⟩⟩
        go_wp2_with fail
        refine (put_walk w _ w.heap.size xs (HO.out.drewN _) HXL.out 4 ty).mono ?_
        rintro e w6 ⟨⟨r, rfl⟩, hO, hKT⟩
        have HO3 := Aside0.mk hO
        have HT3 := Aside0.mk ((HT.out.drewN _).keepT hKT)
        clear hO hKT hx1 hx2 HO HT heq0 hge0 hjb hjb'
        cases gk with
        | zero => exact absurd HIJ.out.2.2 (by omega)
        | succ gh =>
         go_wp2
         go_roundg gh
         case measure => omega
         case rel => exact ⟨i, j + 1, _, (by first | rfl | (simp; done)), (by first | rfl | (simp; done)), ⟨by have := HIJ.out; omega⟩, ⟨by
          rw [← HD.out, List.drop_eq_getElem_cons hi, List.drop_eq_getElem_cons hj, ← HTX.out, ← HTY.out, diffOps_ins (fun e => HEQ.out (by rw [e]))]
          ·simp
          ·have h1 := HGE.out
           rw [HV1.out, HV2.out] at h1
           unfold tabL at h1
           rw [List.drop_eq_getElem_cons hi, List.drop_eq_getElem_cons hj, ← HTX.out, ← HTY.out] at h1
           omega⟩, HO3, HT3⟩
     ·obtain rfl : j = b'.length := by omega
      have hjb : ((b'.length : Int) == (b'.length : Int)) = true := beq_self_eq_true _
      clear hj
      go_wp2_with fail
      go_quiet (fail)
      go_wp2_with fail
      refine (put_walk w _ w.heap.size xs (HO.out.drewN _) HXL.out 3 tx).mono ?_
      rintro e w6 ⟨⟨r, rfl⟩, hO, hKT⟩
      have HO3 := Aside0.mk hO
      have HT3 := Aside0.mk ((HT.out.drewN _).keepT hKT)
      clear hO hKT hx1 HO HT hjb
      cases gk with
      | zero => exact absurd HIJ.out.2.2 (by omega)
      | succ gh =>
       go_wp2
       go_roundg gh
       case measure => omega
       case rel => exact ⟨i + 1, b'.length, _, (by first | rfl | (simp; done)), rfl, ⟨by have := HIJ.out; omega⟩, ⟨by rw [← HD.out, List.drop_eq_getElem_cons hi, ← HTX.out]; simp [diffOps_nil_right]⟩, HO3, HT3⟩
    ·obtain rfl : i = a'.length := by omega
     clear hi
     by_cases hj : j < b'.length
     ·have hjI : (j : Int) < (b'.length : Int) := by omega
      have hj0 : (0 : Int) ≤ (j : Int) := by omega
      obtain ⟨ad2, e2, hx2⟩ := Kd.at_string HR1'.out (j : Int) hj0 hjI
      cases e2
      replace hx2 := (HO.out.1.cell (World.block_lt_of_cell? w _ hx2)).trans hx2
      rw [Int.toNat_natCast, rd_getElem hj] at hx2
      obtain ⟨ty, hty⟩ : ∃ t, t = b'[j] := ⟨_, rfl⟩
      rw [← hty] at hx2
      have HTY := Aside0.mk hty
      clear hty
      have hjb : ((j : Int) == (b'.length : Int)) = false := beq_eq_false_iff_ne.mpr (by omega)
      have hjb' : (j == b'.length) = false := beq_eq_false_iff_ne.mpr (by omega)
      go_wp2_with fail
      go_quiet (fail)
      go_wp2_with fail
      refine (put_walk w _ w.heap.size xs (HO.out.drewN _) HXL.out 4 ty).mono ?_
      rintro e w6 ⟨⟨r, rfl⟩, hO, hKT⟩
      have HO3 := Aside0.mk hO
      have HT3 := Aside0.mk ((HT.out.drewN _).keepT hKT)
      clear hO hKT hx2 HO HT hjb hjb'
      cases gk with
      | zero => exact absurd HIJ.out.2.2 (by omega)
      | succ gh =>
       go_wp2
       go_roundg gh
       case measure => omega
       case rel => exact ⟨a'.length, j + 1, _, rfl, (by first | rfl | (simp; done)), ⟨by have := HIJ.out; omega⟩, ⟨by rw [← HD.out, List.drop_eq_getElem_cons hj, ← HTY.out]; simp [diffOps_nil_left]⟩, HO3, HT3⟩
     ·obtain rfl : j = b'.length := by omega
      clear hj
      obtain ⟨h1, h2, v, h3, h4⟩ := HO.out
      obtain ⟨Ao, co, rfl⟩ := Kd.R_slice h4
      have hbx : wr.cell? ⟨w.heap.size, 0, none⟩ = some (.slice Ao xs.length co) := (blk_cell h3 0).trans rfl
      have H1 := Aside0.mk h1
      have H4 := Aside0.mk h4
      clear h1 h2 h3 h4
      go_wp2
      go_ret
      refine ⟨_, rfl, Kd.R_mono (ok := fun k => k ≠ w.heap.size) ?_ (fun _ _ => trivial), H1.out⟩
      have e := HD.out
      simp only [List.drop_length, diffOps_nil_left, List.map_nil, List.append_nil] at e
      rw [← e]
      exact H4.out
end Go.Proofs.Ytfoponahdidddaa.P
