/- Own and printed texts that the theorem of SwapTells reaches, put together. -/
import Derived.Test.YtfoponahdidddaaqSwapTells18
import Derived.Test.YtfoponahdidddaaqSwapTells15
import Derived.Test.YtfoponahdidddaaqSwapTells4
import Derived.Test.YtfoponahdidddaaqSwapTells3
import Derived.Test.YtfoponahdidddaaqSwapTells10
import Derived.Test.YtfoponahdidddaaqSwapTells5
set_option linter.unusedVariables false
set_option linter.unusedSimpArgs false
namespace Go.Proofs.Ytfoponahdidddaa.P
open Go.RowKit Go.Proofs.YtfoponahdidddaaW.PrintWords Go.Proofs.YtfoponahdidddaaW.PrintLast Go.Proofs.YtfoponahdidddaaW.PrintMore
set_option maxHeartbeats 8000000 in
set_option maxRecDepth 100000 in
theorem ref_walk_walk (A0 : Option Addr) (c0 : Nat) (l0 : List (Op)) (A1 : Option Addr) (c1 : Nat) (l1 : List (Op)) (r1 : List (By)) (r2 : Bool) (r3 : Bool) (w : World) (hr0 : Kd.C kOp w A0 l0.length l0) (hc0 : l0.length ≤ c0) (hr1 : Kd.C kOp w A1 l1.length l1) (hc1 : l1.length ≤ c1) (hok : okR l0 l1 = true)
    (h : (match walkO (l0.length + l1.length) l0 l1 false with | none => some ([], false, false) | some os => some (byS os, metS os, true)) = some (r1, r2, r3)) :
    Calls Try.prog 40 #[.slice A0 l0.length c0, .slice A1 l1.length c1] w (RefPost w r1 r2 r3) := by
  obtain ⟨ok0, ok1, hlen⟩ := okR_parts hok
  have HW0 := Aside0.mk (show RefW w w (.slice A0 l0.length c0) (.slice A1 l1.length c1) (.slice none 0 0) l0 l1 [] (fun _ => True) from ⟨Below.refl _ _, Kd.V_mono (Kd.V_mk hc0 (Kd.C_F kOp_hp hr0)) (fun k _ => ⟨trivial, by simp [Value.ownBlock]⟩), Kd.V_mono (Kd.V_mk hc1 (Kd.C_F kOp_hp hr1)) (fun k _ => ⟨trivial, by simp [Value.ownBlock]⟩), Kd.R_nil _ _ _ _ _⟩)
  have HOK := Aside0.mk (And.intro ok0 (And.intro ok1 hlen))
  have HH := Aside0.mk h
  clear hr0 hc0 hr1 hc1 hok h ok0 ok1 hlen
  go_enter Try.func40, Try.ntmps40
  go_wp2
  go_loopg [0, 1, 7, 8, 9] (l0.length + l1.length) (fun gk v0 v1 v7 v8 v9 wx => ∃ (ps qs : List Op) (e : Bool) (os : List Step), v8 = .bool (metS os) ∧ v9 = .bool e ∧ Aside0 (RefW w wx v0 v1 v7 ps qs (byS os) (fun _ => True)) ∧ Aside0 ((walkO gk ps qs e).map (os ++ ·) = walkO (l0.length + l1.length) l0 l1 false) ∧ Aside0 (ps.length + qs.length ≤ gk ∧ os.length + gk ≤ 1099511627776 ∧ (∀ o ∈ ps, okR1 o = true) ∧ ∀ o ∈ qs, okR1 o = true))
  case atStart => exact ⟨l0, l1, false, [], rfl, rfl, HW0, ⟨by simp⟩, ⟨Nat.le_refl _, by have := HOK.out.2.2; simpa using this, HOK.out.1, HOK.out.2.1⟩⟩
  case round =>
    clear HW0 HOK
    obtain ⟨ps, qs, e, os, rfl, rfl, HW, HM, HB⟩ := hrel
    by_cases hz : ps.length + qs.length = 0
    · obtain rfl : ps = [] := List.length_eq_zero_iff.mp (by omega)
      obtain rfl : qs = [] := List.length_eq_zero_iff.mp (by omega)
      obtain ⟨Ap, cp, Aq, cq, Ao, co, e0, e1, e7⟩ := HW.out.len0
      subst e0
      subst e1
      subst e7
      clear hz HB
      have hM : walkO (l0.length + l1.length) l0 l1 false = some os := by
        rw [← HM.out]
        cases gk <;> simp [walkO]
      have hh := HH.out
      rw [hM] at hh
      have HH2 := Aside0.mk hh
      clear HM HH hM hh
      go_wp2
      go_ret3
      obtain ⟨e1, e2⟩ := Prod.mk.inj (Option.some.inj HH2.out)
      obtain ⟨e2, e3⟩ := Prod.mk.inj e2
      subst e1 e2 e3
      exact ⟨_, rfl, HW.out.2.2.2, HW.out.1⟩
    · obtain ⟨n, rfl⟩ : ∃ n, gk = n + 1 := ⟨gk - 1, by have := HB.out.1; omega⟩
      have HL := Aside0.mk (show (byS os).length < 2199023255552 by have := byS_len os; have := HB.out.2.1; omega)
      have HP := Aside0.mk (show (∀ o ∈ ps, okR1 o = true) ∧ (∀ o ∈ qs, okR1 o = true) ∧ ps.length + qs.length ≤ 1099511627776 from ⟨HB.out.2.2.1, HB.out.2.2.2, by have h1 := HB.out.1; have h2 := HB.out.2.1; omega⟩)
      have HZ := Aside0.mk hz
      clear hz
      by_cases hd : hdK 3 ps = true
      · cases ps with
        | nil => exact absurd hd (by simp [hdK])
        | cons o r =>
          have hk : o.f0 = 3 := by simpa [hdK] using hd
          have hwalk : walkO (n + 1) (o :: r) qs e = (walkO n r qs e).map (⟨o, 1, false⟩ :: ·) := by
            rw [walkO, if_neg HZ.out, if_pos hd]; rfl
          have HWK := Aside0.mk hwalk
          clear hd hwalk
          refine refDel w wr _ o r qs os HW HL hk ⟨?_⟩
          intros
          rename_i hW
          have HW2 := Aside0.mk hW
          clear hW hk HW
          go_wp2
          go_roundg n
          case measure => omega
          case rel =>
            refine ⟨r, qs, e, os ++ [⟨o, 1, false⟩], by simp [metS_app, metS], rfl, HW2, ⟨?_⟩, ⟨?_⟩⟩
            · rw [← HM.out, HWK.out, Option.map_map]
              congr 1
              funext x
              simp
            · have hb := HB.out
              refine ⟨by have := hb.1; simp only [List.length_cons] at this; omega, by have := hb.2.1; simp only [List.length_append, List.length_singleton]; omega, fun x hx => hb.2.2.1 x (List.mem_cons_of_mem _ hx), hb.2.2.2⟩
      · by_cases hi : hdK 4 qs = true
        · cases qs with
          | nil => exact absurd hi (by simp [hdK])
          | cons o r =>
            have hk : o.f0 = 4 := by simpa [hdK] using hi
            have hwalk : walkO (n + 1) ps (o :: r) e = (walkO n ps r e).map (⟨o, 2, false⟩ :: ·) := by
              rw [walkO, if_neg HZ.out, if_neg hd, if_pos hi]; rfl
            have HWK := Aside0.mk hwalk
            clear hi hwalk
            refine refIns w wr _ o r ps os HW HL hk (by simpa using hd) ⟨?_⟩
            intros
            rename_i hW
            have HW2 := Aside0.mk hW
            clear hW hk HW hd
            go_wp2
            go_roundg n
            case measure => omega
            case rel =>
              refine ⟨ps, r, e, os ++ [⟨o, 2, false⟩], by simp [metS_app, metS], rfl, HW2, ⟨?_⟩, ⟨?_⟩⟩
              · rw [← HM.out, HWK.out, Option.map_map]
                congr 1
                funext x
                simp
              · have hb := HB.out
                refine ⟨by have := hb.1; simp only [List.length_cons] at this; omega, by have := hb.2.1; simp only [List.length_append, List.length_singleton]; omega, hb.2.2.1, fun x hx => hb.2.2.2 x (List.mem_cons_of_mem _ hx)⟩
        · obtain ⟨hl1, hl2⟩ := far_line HB.out.2.2.1 HB.out.2.2.2 HZ.out
          have hwalk : walkO (n + 1) ps qs e = if noneL (farL ps) (farL qs) e = true then none else (walkO n (dropL ps (lineL (farL ps) (farL qs)).2.1) (dropL qs (lineL (farL ps) (farL qs)).2.1) (opnB (lineL (farL ps) (farL qs)).1)).map ((lineL (farL ps) (farL qs)).2.2 :: ·) := by
            rw [walkO, if_neg HZ.out, if_neg hd, if_neg hi, hl1, hl2]
          have kx : (farL ps).f0 = 1 ∨ (farL ps).f0 = 2 ∨ (farL ps).f0 = 4 := by
            cases ps with
            | nil => exact .inl rfl
            | cons o r =>
              rcases okR_kind (HB.out.2.2.1 o (List.mem_cons_self ..)) with h | h | h | h
              · exact .inl h
              · exact .inr (.inl h)
              · exact absurd (by simpa [hdK] using h) hd
              · exact .inr (.inr h)
          have ky : (farL qs).f0 = 1 ∨ (farL qs).f0 = 2 ∨ (farL qs).f0 = 3 := by
            cases qs with
            | nil => exact .inl rfl
            | cons o r =>
              rcases okR_kind (HB.out.2.2.2 o (List.mem_cons_self ..)) with h | h | h | h
              · exact .inl h
              · exact .inr (.inl h)
              · exact .inr (.inr h)
              · exact absurd (by simpa [hdK] using h) hi
          have HWK := Aside0.mk hwalk
          have HX := Aside0.mk (And.intro kx ky)
          have HDR := Aside0.mk (fun (st : Step) (hno : noneL (farL ps) (farL qs) e = false) => okR_drop (st := st) HB.out HZ.out (by rw [← hl2]; exact hno))
          have HL1 := Aside0.mk hl1
          clear hwalk kx ky hl1 hl2 hd hi
          refine refA w wr _ ps qs os e (farL ps) (farL qs) HW HL HP ⟨rfl, rfl⟩ HZ HX ⟨?_⟩ ⟨?_⟩
          · intro hno v0' v1' v7' b' e'
            intros
            rename_i hW hb he
            subst hb he
            have HW2 := Aside0.mk hW
            have HNO := Aside0.mk hno
            clear hW hno HW
            go_wp2
            go_roundg n
            case measure => omega
            case rel =>
              refine ⟨_, _, _, os ++ [(lineL (farL ps) (farL qs)).2.2], rfl, rfl, HW2, ⟨?_⟩, ⟨?_⟩⟩
              · rw [← HM.out, HWK.out, if_neg (by rw [HNO.out]; simp), Option.map_map]
                congr 1
                funext x
                simp
              · have := HDR.out (lineL (farL ps) (farL qs)).2.2 HNO.out
                rw [← HL1.out] at this
                exact this
          · intro hno
            intros
            rename_i hb
            have HB2 := Aside0.mk hb
            have HNO := Aside0.mk hno
            clear hb hno HW
            go_wp2
            go_ret3
            have e1 := HM.out
            rw [HWK.out, if_pos HNO.out] at e1
            have e2 := HH.out
            rw [← e1] at e2
            obtain ⟨e3, e4⟩ := Prod.mk.inj (Option.some.inj e2)
            obtain ⟨e4, e5⟩ := Prod.mk.inj e4
            subst e3 e4 e5
            exact ⟨_, rfl, Kd.R_nil _ _ _ _ _, HB2.out⟩
end Go.Proofs.Ytfoponahdidddaa.P
namespace Go.Proofs.Ytfoponahdidddaa.P
open Go.RowKit Go.Proofs.YtfoponahdidddaaW.PrintWords Go.Proofs.YtfoponahdidddaaW.PrintLast Go.Proofs.YtfoponahdidddaaW.PrintMore
attribute [local go_sem] max2_int min2_int max_two min_two max_three min_three max_four min_four
theorem patchworkref8_walk.calls (A0 : Option Addr) (c0 : Nat) (l0 : List (Op)) (A1 : Option Addr) (c1 : Nat) (l1 : List (Op)) (r1 : List (By)) (r2 : Bool) (r3 : Bool) (w : World) (hr0 : Kd.C kOp w A0 l0.length l0) (hc0 : l0.length ≤ c0) (hr1 : Kd.C kOp w A1 l1.length l1) (hc1 : l1.length ≤ c1) (h : patchworkref8_walk.f l0 l1 = some (r1, r2, r3)) :
  Calls Try.prog 40 #[.slice A0 l0.length c0, .slice A1 l1.length c1] w fun e w' => ∃ v0_ : Value, e = .returned (.tuple #[v0_, .bool r2, .bool r3]) ∧ Kd.R kBy 61 w' w.heap.size (fun _ => True) v0_ r1 ∧ Below w.heap.size w w' := by
 unfold patchworkref8_walk.f at h
 split at h
 ·rename_i hok
  exact ref_walk_walk A0 c0 l0 A1 c1 l1 r1 r2 r3 w hr0 hc0 hr1 hc1 hok h
 ·exact absurd h (by simp)
end Go.Proofs.Ytfoponahdidddaa.P
