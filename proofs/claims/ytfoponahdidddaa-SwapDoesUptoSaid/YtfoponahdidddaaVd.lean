/- Own: two in the other order, told line by line. -/
import Derived.Test.YtfoponahdidddaaVb
import Derived.Test.YtfoponahdidddaaVc
import Derived.Test.YtfoponahdidddaaEe
namespace Go.Proofs.Ytfoponahdidddaa.P
open Go.RowKit Go.Proofs.YtfoponahdidddaaW.PrintWords Go.Proofs.YtfoponahdidddaaW.PrintLast Go.Proofs.YtfoponahdidddaaW.PrintMore
set_option linter.unusedSimpArgs false
set_option linter.unusedVariables false

theorem fst_skips : ∀ (n : Nat) (W : List TU), fstT (List.replicate n ((.skip, 0) : TU) ++ W) = List.replicate n .skip ++ fstT W
  | 0, W => by simp
  | n + 1, W => by rw [List.replicate_succ, List.cons_append, fstT, fst_skips n W]; rfl
theorem snd_skips : ∀ (n : Nat) (W : List TU), sndT (List.replicate n ((.skip, 0) : TU) ++ W) = List.replicate n .skip ++ sndT W
  | 0, W => by simp
  | n + 1, W => by rw [List.replicate_succ, List.cons_append, sndT, snd_skips n W]; rfl
theorem touch_skips : ∀ (n : Nat) (b : Int) (W : List TU), touchT b (List.replicate (n + 1) ((.skip, 0) : TU) ++ W) = touchT 0 W
  | 0, b, W => by rw [List.replicate_succ, List.cons_append, touchT]; simp
  | n + 1, b, W => by
    rw [List.replicate_succ, List.cons_append, touchT]
    show (_ || touchT 0 (List.replicate (n + 1) ((.skip, 0) : TU) ++ W)) = _
    rw [touch_skips n 0 W]; simp
/-- A step's lines. -/
theorem step_lines {s : Step} (h : goodS s) (hk : kindS s) (h2 : s.f2 = false) :
    (s.f0.f0 = 1 ∧ s.f1 = 0 ∧ ∃ n, exO s.f0 = List.replicate (n + 1) .skip) ∨ (s.f0.f0 = 2 ∧ s.f1 = 0 ∧ exO s.f0 = [.keep s.f0.f2]) ∨ (s.f0.f0 = 3 ∧ (s.f1 = 1 ∨ s.f1 = 2) ∧ exO s.f0 = [.del s.f0.f2]) ∨ (s.f0.f0 = 4 ∧ (s.f1 = 1 ∨ s.f1 = 2) ∧ exO s.f0 = [.ins s.f0.f2]) := by
  have ho := h.1.1
  by_cases h1 : s.f0.f0 = 1
  · obtain ⟨a, b, c⟩ := okOne_skip ho h1
    refine .inl ⟨h1, (hk.1 (.inl h1)).1, (s.f0.f1 - 1).toNat, ?_⟩
    rw [exO_skip h1]
    congr 1; omega
  · rcases (okOne_ne ho h1).1 with e | e | e
    · exact .inr (.inl ⟨e, (hk.1 (.inr e)).1, by simp [exO, e]⟩)
    · exact .inr (.inr (.inl ⟨e, hk.2.1 e, by simp [exO, e]⟩))
    · exact .inr (.inr (.inr ⟨e, hk.2.2 e, by simp [exO, e]⟩))
theorem met_cons {s : Step} {os : List Step} : metS (s :: os) = false ↔ s.f2 = false ∧ metS os = false := by
  simp [metS]
theorem sides_ex : ∀ (os : List Step), metS os = false → (∀ s ∈ os, goodS s) → (∀ s ∈ os, kindS s) →
    ex (sideO 2 3 os) = fstT (exS os) ∧ ex (sideO 1 4 os) = sndT (exS os) ∧ ∀ b, touchO b os = touchT b (exS os)
  | [], _, _, _ => ⟨rfl, rfl, fun _ => rfl⟩
  | s :: os, hm, hg, hk => by
    obtain ⟨h2, hm'⟩ := met_cons.mp hm
    obtain ⟨i1, i2, i3⟩ := sides_ex os hm' (fun x hx => hg x (List.mem_cons_of_mem _ hx)) (fun x hx => hk x (List.mem_cons_of_mem _ hx))
    have e : exS (s :: os) = (exO s.f0).map (fun u => ((u, s.f1) : TU)) ++ exS os := by
      rw [exS_cons, h2]; simp
    rw [sideO_cons, sideO_cons, ex_app, ex_app, i1, i2, e]
    have t : ∀ b, touchO b (s :: os) = ((decide (s.f1 ≠ 0) && (decide (b ≠ 0) && decide (s.f1 ≠ b))) || touchT s.f1 (exS os)) := by
      intro b
      rw [touchO, h2, i3]; rfl
    rcases step_lines (hg s (List.mem_cons_self ..)) (hk s (List.mem_cons_self ..)) h2 with ⟨k, f, n, x⟩ | ⟨k, f, x⟩ | ⟨k, f, x⟩ | ⟨k, f, x⟩
    · have hmap : (List.replicate (n + 1) U.skip).map (fun u => ((u, s.f1) : TU)) = List.replicate (n + 1) ((.skip, 0) : TU) := by rw [List.map_replicate, f]
      rw [if_pos (.inl f), if_pos (.inl f), x, hmap, fst_skips, snd_skips]
      refine ⟨by simp [ex, x], by simp [ex, x], fun b => ?_⟩
      rw [t b, touch_skips, f]; simp
    · rw [if_pos (.inl f), if_pos (.inl f), x]
      refine ⟨by simp [ex, x, f, fstT], by simp [ex, x, f, sndT], fun b => ?_⟩
      rw [t b]; rfl
    · rw [x]
      rcases f with f | f
      · rw [if_neg (by omega), if_pos k, if_pos (.inr f)]
        refine ⟨?_, ?_, fun b => ?_⟩
        · show ex [⟨2, s.f0.f1, s.f0.f2⟩] ++ fstT (exS os) = fstT ((.del s.f0.f2, s.f1) :: exS os)
          rw [f, fst_d1]; simp [ex, exO]
        · show ex [s.f0] ++ sndT (exS os) = sndT ((.del s.f0.f2, s.f1) :: exS os)
          rw [f, snd_d1]; simp [ex, x]
        · rw [t b]; rfl
      · rw [if_pos (.inr f), if_neg (by omega), if_neg (by omega)]
        refine ⟨?_, ?_, fun b => ?_⟩
        · show ex [s.f0] ++ fstT (exS os) = fstT ((.del s.f0.f2, s.f1) :: exS os)
          rw [f, fst_d2]; simp [ex, x]
        · show ex [] ++ sndT (exS os) = sndT ((.del s.f0.f2, s.f1) :: exS os)
          rw [f, snd_d2]; rfl
        · rw [t b]; rfl
    · rw [x]
      rcases f with f | f
      · rw [if_neg (by omega), if_neg (by omega), if_pos (.inr f)]
        refine ⟨?_, ?_, fun b => ?_⟩
        · show ex [] ++ fstT (exS os) = fstT ((.ins s.f0.f2, s.f1) :: exS os)
          rw [f, fst_i1]; rfl
        · show ex [s.f0] ++ sndT (exS os) = sndT ((.ins s.f0.f2, s.f1) :: exS os)
          rw [f, snd_i1]; simp [ex, x]
        · rw [t b]; rfl
      · rw [if_pos (.inr f), if_neg (by omega), if_pos k]
        refine ⟨?_, ?_, fun b => ?_⟩
        · show ex [s.f0] ++ fstT (exS os) = fstT ((.ins s.f0.f2, s.f1) :: exS os)
          rw [f, fst_i2]; simp [ex, x]
        · show ex [⟨2, s.f0.f1, s.f0.f2⟩] ++ sndT (exS os) = sndT ((.ins s.f0.f2, s.f1) :: exS os)
          rw [f, snd_i2]; simp [ex, exO]
        · rw [t b]; rfl
theorem met_no3 : ∀ (os : List Step), (∀ s ∈ os, goodS s) → (no3 (exS os) ↔ metS os = false)
  | [], _ => ⟨fun _ => rfl, fun _ x hx => by simp [exS] at hx⟩
  | s :: os, hg => by
    have i := met_no3 os fun x hx => hg x (List.mem_cons_of_mem _ hx)
    have h1 := hg s (List.mem_cons_self ..)
    have hne : exO s.f0 ≠ [] := by
      by_cases hk : s.f0.f0 = 1
      · rw [exO_skip hk, replicate_toNat (okOne_skip h1.1.1 hk).1]; simp
      · rw [exO_ne hk]; simp
    rw [met_cons, exS_cons]
    constructor
    · intro h
      refine ⟨?_, i.mp fun x hx => h x (List.mem_append_right _ hx)⟩
      cases h2 : s.f2
      · rfl
      · exfalso
        rw [h2] at h
        cases hx : exO s.f0 with
        | nil => exact hne hx
        | cons u r => exact h (u, 3) (by rw [hx]; simp) rfl
    · rintro ⟨h2, h3⟩ x hx
      rcases List.mem_append.mp hx with hx | hx
      · obtain ⟨u, _, rfl⟩ := List.mem_map.mp hx
        rw [h2]
        show s.f1 ≠ 3
        have := h1.2
        omega
      · exact i.mpr h3 x hx
/-- What two in the other order are, by what their walk is. -/
theorem swap_val {p q : List Op} (hp : Sx p) (hq : Sx q) (rp : rightL p = true) (rq : rightL q = true) {W : List TU} (hW : cmpT (ex p) false (ex q) = some W) :
    (rightU (un W) = false → swapL p q = ([], [], 6)) ∧ (rightU (un W) = true → (¬ no3 W → swapL p q = ([], [], 7)) ∧ (no3 W → (touchT 0 W = true → swapL p q = ([], [], 7)) ∧
      (touchT 0 W = false → swapL p q = if rightU (fstT W) = true ∧ rightU (sndT W) = true then (pack (nf [] (fstT W)), pack (nf [] (sndT W)), 0) else ([], [], 7)))) := by
  unfold swapL
  rw [if_pos ⟨rp, rq⟩]
  rcases walk_then hp hq rp rq with ⟨hw, _⟩ | ⟨os, hw, hc, g1, g2, he, hf, hsm, hsk, hr, _⟩
  · exfalso
    have hc := walkO_cmp (p.length + q.length) p q false (Nat.le_refl _) (rightL_okX rp hp).all (rightL_okX rq hq).all
    rw [hw, hW] at hc
    simp at hc
  · rw [hW] at hc
    obtain rfl := Option.some.inj hc
    have ks := walkO_kind _ _ _ _ _ (rightL_okX rp hp) (rightL_okX rq hq) hw
    simp only [hw]
    unfold swapS
    rw [hr]
    refine ⟨fun h => by rw [if_pos h], fun h => ?_⟩
    rw [if_neg (by rw [h]; simp)]
    refine ⟨fun h3 => ?_, fun h3 => ?_⟩
    · have : metS os = true := by
        cases hm : metS os
        · exact absurd ((met_no3 os g1).mpr hm) h3
        · rfl
      rw [if_pos (touch_met os 0 this)]
    · have hm := (met_no3 os g1).mp h3
      obtain ⟨s1, s2, s3⟩ := sides_ex os hm g1 ks
      rw [s3 0]
      refine ⟨fun ht => by rw [if_pos ht], fun ht => ?_⟩
      rw [if_neg (by rw [ht]; simp)]
      unfold swapEnd
      have f1 : ∀ o ∈ sideO 2 3 os, formO o := fun o ho => form_of (side_ok (.inl rfl) g1 o ho).1
      have f2 : ∀ o ∈ sideO 1 4 os, formO o := fun o ho => form_of (side_ok (.inr rfl) g1 o ho).1
      rw [right_iff f1, right_iff f2]
      unfold normL
      rw [s1, s2]
theorem swap_none {p q : List Op} (hp : Sx p) (hq : Sx q) (rp : rightL p = true) (rq : rightL q = true) (hW : cmpT (ex p) false (ex q) = none) : swapL p q = ([], [], 6) := by
  unfold swapL
  rw [if_pos ⟨rp, rq⟩]
  rcases walk_then hp hq rp rq with ⟨hw, _⟩ | ⟨os, hw, hc, _⟩
  · simp only [hw]
  · rw [hW] at hc; simp at hc
/-- Where it is told: the walk, and what comes of it. -/
theorem swap_told {p q : List Op} (hp : Sx p) (hq : Sx q) (h : (swapL p q).2.2 = 0) : ∃ W, rightL p = true ∧ rightL q = true ∧ cmpT (ex p) false (ex q) = some W ∧ no3 W ∧ touchT 0 W = false ∧ rightU (un W) = true ∧ rightU (fstT W) = true ∧ rightU (sndT W) = true ∧
    swapL p q = (pack (nf [] (fstT W)), pack (nf [] (sndT W)), 0) := by
  by_cases hr : rightL p = true ∧ rightL q = true
  · obtain ⟨rp, rq⟩ := hr
    cases hW : cmpT (ex p) false (ex q) with
    | none => rw [swap_none hp hq rp rq hW] at h; simp at h
    | some W =>
      obtain ⟨v1, v2⟩ := swap_val hp hq rp rq hW
      cases ru : rightU (un W)
      · rw [v1 ru] at h; simp at h
      · obtain ⟨v3, v4⟩ := v2 ru
        by_cases h3 : no3 W
        · obtain ⟨v5, v6⟩ := v4 h3
          cases ht : touchT 0 W
          · have v := v6 ht
            by_cases hs : rightU (fstT W) = true ∧ rightU (sndT W) = true
            · rw [if_pos hs] at v
              exact ⟨W, rp, rq, rfl, h3, ht, ru, hs.1, hs.2, v⟩
            · rw [if_neg hs] at v
              rw [v] at h; simp at h
          · rw [v5 ht] at h; simp at h
        · rw [v3 h3] at h; simp at h
  · unfold swapL at h
    rw [if_neg hr] at h; simp at h
/-- Where it is not told nothing is told. -/
theorem swap_not {p q : List Op} (h : (swapL p q).2.2 ≠ 0) : (swapL p q).1 = [] ∧ (swapL p q).2.1 = [] := by
  unfold swapL at h ⊢
  split
  · rename_i c
    rw [if_pos c] at h
    cases hw : walkO (p.length + q.length) p q false with
    | none => exact ⟨rfl, rfl⟩
    | some os =>
      rw [hw] at h
      simp only at h ⊢
      unfold swapS at h ⊢
      split
      · exact ⟨rfl, rfl⟩
      · rename_i c1
        rw [if_neg c1] at h
        split
        · exact ⟨rfl, rfl⟩
        · rename_i c2
          rw [if_neg c2] at h
          unfold swapEnd at h ⊢
          split
          · rename_i c3
            rw [if_pos c3] at h
            exact absurd rfl h
          · exact ⟨rfl, rfl⟩
  · exact ⟨rfl, rfl⟩
/-- How long it is. -/
theorem norm_small {l : List Op} {B : Nat} (hB : 0 < B) (h : ∀ o ∈ l, o.f2.size < B) : ∀ o ∈ normL l, o.f2.size < B := by
  intro o ho
  have he : ByteArray.empty.size = 0 := rfl
  rcases tx_pack _ o ho with e | ⟨x, hx, e⟩
  · rw [e, he]; exact hB
  · rcases nf_mem _ _ x hx with hx | hx
    · simp at hx
    · rcases tx_ex hx with e2 | ⟨y, hy, e2⟩
      · rw [e, e2, he]; exact hB
      · rw [e, e2]; exact h y hy
theorem norm_len {l : List Op} (h : ∀ o ∈ l, formO o) : (normL l).length ≤ l.length := by
  have := nf_pack_len l [] h
  simpa [normL] using this
theorem swap_len {p q : List Op} (hp : Sx p) (hq : Sx q) : ((swapL p q).1.length ≤ p.length + q.length ∧ ∀ o ∈ (swapL p q).1, o.f2.size < 1073741824) ∧ ((swapL p q).2.1.length ≤ p.length + q.length ∧ ∀ o ∈ (swapL p q).2.1, o.f2.size < 1073741824) := by
  by_cases h : (swapL p q).2.2 = 0
  · obtain ⟨W, rp, rq, hW, h3, ht, r1, r2, r3, e⟩ := swap_told hp hq h
    rcases walk_then hp hq rp rq with ⟨hw, _⟩ | ⟨os, hw, hc, g1, g2, he, hf, hsm, hsk, hr, _⟩
    · exfalso
      have hc := walkO_cmp (p.length + q.length) p q false (Nat.le_refl _) (rightL_okX rp hp).all (rightL_okX rq hq).all
      rw [hw, hW] at hc
      simp at hc
    · rw [hW] at hc
      obtain rfl := Option.some.inj hc
      have ks := walkO_kind _ _ _ _ _ (rightL_okX rp hp) (rightL_okX rq hq) hw
      obtain ⟨s1, s2, s3⟩ := sides_ex os ((met_no3 os g1).mp h3) g1 ks
      rw [e, ← s1, ← s2]
      have k1 := side_ok (b := 2) (a3 := 3) (.inl rfl) g1
      have k2 := side_ok (b := 1) (a3 := 4) (.inr rfl) g1
      have l1 := sideO_len 2 3 os
      have l2 := sideO_len 1 4 os
      have n1 := norm_len (l := sideO 2 3 os) fun o ho => form_of (k1 o ho).1
      have n2 := norm_len (l := sideO 1 4 os) fun o ho => form_of (k2 o ho).1
      exact ⟨⟨by show (normL _).length ≤ _; omega, norm_small (by omega) fun o ho => (k1 o ho).2⟩, by show (normL _).length ≤ _; omega, norm_small (by omega) fun o ho => (k2 o ho).2⟩
  · obtain ⟨a, b⟩ := swap_not h
    rw [a, b]
    exact ⟨⟨by simp, by simp⟩, by simp, by simp⟩
theorem Sx.swap {p q : List Op} (hp : Sx p) (hq : Sx q) (h : p.length + q.length ≤ 274877906944) : Sx (swapL p q).1 ∧ Sx (swapL p q).2.1 := by
  obtain ⟨⟨a, b⟩, c, d⟩ := swap_len hp hq
  exact ⟨⟨by omega, b⟩, by omega, d⟩
theorem num_val (x : Int) : patchworklaw15_num.f x = some x := rfl
theorem alive15 : Ev (fun k => patchworklaw15_alive.f k) true := by
  have s0 : Sx [] := ⟨by simp, by simp⟩
  have s1 : Sx [(⟨4, 0, ⟨#[97, 10]⟩⟩ : Op)] := ⟨by simp, fun o ho => by rw [List.mem_singleton.mp ho]; exact (by decide : (2 : Nat) < 1073741824)⟩
  have s2 : Sx [(⟨1, 3, ⟨#[]⟩⟩ : Op), ⟨4, 0, ⟨#[98, 10]⟩⟩] := ⟨by simp, fun o ho => by
    rcases List.mem_cons.mp ho with rfl | ho
    · exact (by decide : (0 : Nat) < 1073741824)
    · rw [List.mem_singleton.mp ho]; exact (by decide : (2 : Nat) < 1073741824)⟩
  have e0 : swapL [] [] = ([], [], 0) := by decide +kernel
  have e1 : swapL [(⟨4, 0, ⟨#[97, 10]⟩⟩ : Op)] [(⟨1, 3, ⟨#[]⟩⟩ : Op), ⟨4, 0, ⟨#[98, 10]⟩⟩] = ([⟨1, 2, ⟨#[]⟩⟩, ⟨4, 0, ⟨#[98, 10]⟩⟩], [⟨4, 0, ⟨#[97, 10]⟩⟩, ⟨1, 2, ⟨#[]⟩⟩, ⟨2, 0, ⟨#[98, 10]⟩⟩], 0) := by decide +kernel
  have a0 := pswap_ev s0 s0
  have a1 := pswap_ev s1 s2
  rw [e0] at a0
  rw [e1] at a1
  unfold patchworklaw15_alive.f
  refine Ev.bind' a0 ?_
  refine Ev.bind' a1 ?_
  exact Ev.now _
end Go.Proofs.Ytfoponahdidddaa.P
