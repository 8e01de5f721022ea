/- Own: the walk of compose's drop and of slices.Clone. -/
import Derived.Test.YtfoponahdidddaaKa
import Derived.Test.YtfoponahdidddaaKo
import Derived.Lib.SliceRun
namespace Go.Proofs.Ytfoponahdidddaa.P
open Go.RowKit Go.Proofs.YtfoponahdidddaaW.PrintWords Go.Proofs.YtfoponahdidddaaW.PrintLast Go.Proofs.YtfoponahdidddaaW.PrintMore
set_option linter.unusedVariables false
set_option linter.unusedSimpArgs false

theorem info_OpC : (Try.prog.info? 41).map (fun i => (i.zero, i.size, i.bytes)) = some (some (.agg #[(.int .i64 0), (.int .i64 0), (.string ⟨#[]⟩)]), 3, 32) := by kernel_rfl
theorem info_OpB : ∃ b, Try.prog.info? 41 = some b ∧ b.size = 3 := by
  obtain ⟨i, hi, _, hs, _⟩ := info_parts info_OpC
  exact ⟨i, hi, hs⟩

set_option maxHeartbeats 2000000 in
theorem drop_walk (w wr : World) (hw : Below w.heap.size w wr) (v : Value) (ok : Nat → Prop) (ps : List Op) (h : Kd.Q kOp 41 wr w.heap.size ok v ps) (n : Int) :
    Calls Try.prog 83 #[v, .int .i64 n] wr fun e w' => ∃ v', e = .returned v' ∧ Below w.heap.size w w' ∧ wr.grownBy w' v.ownBlock ∧ (v'.ownBlock = v.ownBlock ∨ v'.ownBlock = none) ∧ Kd.Q kOp 41 w' w.heap.size ok v' (dropL ps n) := by
  obtain ⟨A, c, rfl, hc⟩ := Kd.Q_slice h
  have HQ := Aside0.mk h
  have HW := Aside0.mk hw
  have HC := Aside0.mk hc
  clear h hw hc
  go_enter Try.func83, Try.ntmps83
  cases ps with
  | nil =>
    have c0 : (((([] : List Op).length : Nat) : Int) == 0) = true := rfl
    go_wp2
    go_ret
    exact ⟨_, rfl, HW.out, World.grownBy.refl _ _, .inr rfl, Kd.Q_nil _ _ _ _ _⟩
  | cons o l =>
    have hlen : 0 < (o :: l).length := by simp
    have hlen0 : (0 : Int) < ((o :: l).length : Nat) := by omega
    obtain ⟨g, off, cap, hv, hg1, hg2, _⟩ := Kd.Q_form HQ.out hlen
    injection hv with hA _ hcap
    subst hA
    subst hcap
    obtain ⟨cs, hcl, hM, hcc, hff⟩ := Kd.Q_elem HQ.out o 0 (by omega) hlen0
    have hcs := kOp_openM hM
    rw [show (o :: l).getD (0 : Int).toNat o = o from rfl] at hcs
    subst hcs
    simp only [Int.toNat_zero, Nat.zero_mul, Nat.add_zero] at hcc hff
    have x0 : wr.cell? ⟨g, off, none⟩ = some (.int .i64 o.f0) := hcc 0 _ rfl
    have x1 : wr.cell? ⟨g, off + 1, none⟩ = some (.int .i64 o.f1) := hcc 1 _ rfl
    have x1f : wr.frozen? ⟨g, off + 1, none⟩ = false := hff 1
    have HCC := Aside0.mk hcc
    have HM := Aside0.mk hM
    obtain ⟨m, hm⟩ : ∃ m, m = (o :: l).length := ⟨_, rfl⟩
    rw [← hm] at hlen
    have HN := Aside0.mk hm
    have HG := Aside0.mk (And.intro hg1 hg2)
    have c0 : ((m : Int) == 0) = false := beq_eq_false_iff_ne.mpr (by omega)
    have i0 : ((0 : Int) < (m : Int)) = True := eq_true (by omega)
    have i1 : (0 < m) = True := eq_true hlen
    rw [← hm]
    have hl1 : (1 : Int) ≤ (m : Int) := by omega
    obtain ⟨bi, hbi, hbs⟩ := info_OpB
    have hmc : m ≤ c := by rw [hm]; exact HC.out
    have hcut := cut_from (P := Try.prog) 22 41 .i64 Try.underlying22 hbi 3 hbs (some ⟨g, off, none⟩) m c 1 (by omega) hl1
    have hdrop := Kd.Q_drop (k := 1) HQ.out (by simp)
    rw [show (o :: l).drop 1 = l from rfl, ← hm] at hdrop
    obtain ⟨A1, hA1⟩ : ∃ x, x = (if c = 1 then some (⟨g, off, none⟩ : Addr) else (some (⟨g, off, none⟩ : Addr)).map (·.add (1 * 3))) := ⟨_, rfl⟩
    have hown : (Value.slice A1 (m - 1) (c - 1)).ownBlock = (Value.slice (some ⟨g, off, none⟩) m c).ownBlock := by
      rw [hA1]
      split <;> simp [Value.ownBlock, Addr.add]
    simp only [show (1 : Int).toNat = 1 from rfl] at hcut
    rw [← hA1] at hcut
    replace hdrop : Kd.Q kOp 41 wr w.heap.size ok (.slice A1 (m - 1) (c - 1)) l := by rw [hA1]; exact hdrop
    have HD := Aside0.mk (And.intro hdrop hown)
    clear hcc hM hcl hff hg1 hg2 hm hlen hlen0 hl1 hbi hbs hmc hA1 hdrop hown
    generalize m - 1 = m1 at hcut HD
    generalize c - 1 = c1 at hcut HD
    by_cases k1 : o.f0 = 1
    · have d1 : (o.f0 == 1) = true := beq_iff_eq.mpr k1
      by_cases k2 : n < o.f1
      · have d2 : decide (n < o.f1) = true := decide_eq_true k2
        go_wp2
        have hs := Kd.Q_seg HQ.out 0 (by omega) (by simp only [List.length_cons]; omega) (c := [.int .i64 o.f0, .int .i64 o.f1, .string o.f2]) (seg := [.int .i64 (wrap64 (o.f1 - n))]) (j := 1) (okp := fun k => ok k ∧ k ≠ g) (x' := (⟨o.f0, wrap64 (o.f1 - n), o.f2⟩ : Op)) rfl (by simpa using HCC.out) (show 1 + 1 ≤ 3 by omega) (kOp_mkM _ _ _ (⟨o.f0, wrap64 (o.f1 - n), o.f2⟩ : Op)) (fun _ h => h)
        simp only [Int.toNat_zero, Nat.zero_mul, Nat.add_zero] at hs
        rw [show (o :: l).set 0 (⟨o.f0, wrap64 (o.f1 - n), o.f2⟩ : Op) = dropL (o :: l) n from by rw [dropL, if_pos ⟨k1, k2⟩]; rfl, ← HN.out] at hs
        have hs' : Kd.Q kOp 41 (wr.setCell ⟨g, off + 1, none⟩ (.int .i64 (wrap64 (o.f1 - n)))) w.heap.size ok (.slice (some ⟨g, off, none⟩) m c) (dropL (o :: l) n) ∧ wr.grownBy (wr.setCell ⟨g, off + 1, none⟩ (.int .i64 (wrap64 (o.f1 - n)))) (some g) := hs
        go_ret
        exact ⟨_, rfl, below_set HW.out HG.out.1, by simpa [Value.ownBlock] using hs'.2, .inl rfl, hs'.1⟩
      · have d2 : decide (n < o.f1) = false := decide_eq_false k2
        go_wp2
        go_ret
        exact ⟨_, rfl, HW.out, World.grownBy.refl _ _, .inl HD.out.2, by rw [dropL, if_neg (fun h => absurd h.2 (by omega))]; exact HD.out.1⟩
    · have d1 : (o.f0 == 1) = false := beq_eq_false_iff_ne.mpr k1
      go_wp2
      go_ret
      exact ⟨_, rfl, HW.out, World.grownBy.refl _ _, .inl HD.out.2, by rw [dropL, if_neg (fun h => k1 h.1)]; exact HD.out.1⟩

set_option maxHeartbeats 1000000 in
theorem clone_walk (w wr : World) (hw : Below w.heap.size w wr) (A : Option Addr) (c : Nat) (ps : List Op) (hC : Kd.C kOp wr A ps.length ps) (hc : ps.length ≤ c) (hl : ps.length < 4398046511104) :
    Calls Try.prog 67 #[.slice A ps.length c] wr fun e w' => ∃ v', e = .returned v' ∧ Below wr.heap.size wr w' ∧ Kd.R kOp 41 w' wr.heap.size (fun _ => True) v' ps := by
  have HR := Aside0.mk hC
  have HC := Aside0.mk hc
  have HL := Aside0.mk hl
  clear hC hc hl hw
  have hn : ∀ W, (binOp .eql 22 (.slice A ps.length c) (.slice none 0 0)).run Try.prog W = .ok (.bool A.isNone) W := fun W => Lib.run_eql_slice_nil W 22 41 A _ c 0 0 Try.underlying22
  go_enter Try.func67, Try.ntmps67
  cases A with
  | none =>
    have h0 : ps = [] := by
      obtain ⟨_, _, h⟩ := HR.out
      cases ps with
      | nil => rfl
      | cons x l =>
        obtain ⟨ad, he, _⟩ := h (by simp)
        cases he
    have hn0 : Option.isNone (none : Option Addr) = true := rfl
    rw [hn0] at hn
    have H0 := Aside0.mk h0
    clear h0
    go_wp2
    go_ret
    obtain rfl := H0.out
    exact ⟨_, rfl, Below.refl _ _, Kd.R_nil _ _ _ _ _⟩
  | some a =>
    go_wp2_with (first | ((with_reducible refine gate_dst (N := 5) rfl ?_); refine Kd.R_lit kOp _ 41 ?hg (N := 5) ?hd (xs := ([] : List (Op))) (inner := []) (ok := fun _ => True) (okp := fun _ => True) ?hr ?hp (fun _ hk => hk) trivial (Below.refl _ _) (Nat.le_refl _) (by simp) ?_; (case hd => rfl); (case hg => rfl); (case hr => first | (go_simp; done) | (go_simp; rfl)); (case hp => exact (Reps.none _ _)); intro v5 w5 ho5 hb5 hg_ hn_; clear hg_ hn_; obtain ⟨A5, c5, rfl⟩ := Kd.R_slice ho5; have H5 := Aside0.mk (And.intro ho5 hb5); clear ho5 hb5) | ((with_reducible refine gate_builtin (b := .append) (xs := #[.tmp 5, .tmp 6]) rfl ?_); at_builtin; refine Kd.R_append_rows kOp (w0 := wr) wr.heap.size rfl (.tmp 5) (.tmp 6) 22 41 (.agg #[(.int .i64 0), (.int .i64 0), (.string ⟨#[]⟩)]) 32 rfl Try.underlying22 info_OpC rfl (by decide) (by omega) _ ([] : List (Op)) ps _ _ _ (fun _ => True) (fun _ => False) rfl rfl H5.out.1 (Kd.C_below HR.out H5.out.2) (fun _ _ h => h) (fun _ h => h.elim) (fun _ _ => trivial) H5.out.2 (below_size H5.out.2) (by have := HL.out; simp only [List.length_nil]; omega) ?_; intro v7 w7 ho7 hb7 hg_ hat_; have H7 := Aside0.mk (And.intro ho7 hb7); clear ho7 hb7 hg_ hat_))
    go_ret
    exact ⟨_, rfl, H7.out.2, by simpa using H7.out.1⟩
end Go.Proofs.Ytfoponahdidddaa.P
