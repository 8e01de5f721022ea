/- Own: what two come to as a relation: of three it is one which two are put together first; how many lines and changes there are; turned back. -/
import Derived.Test.YtfoponahdidddaaCa
import Derived.Test.YtfoponahdidddaaN0
namespace Go.Proofs.Ytfoponahdidddaa.P
open Go.RowKit Go.Proofs.YtfoponahdidddaaW.PrintWords Go.Proofs.YtfoponahdidddaaW.PrintLast Go.Proofs.YtfoponahdidddaaW.PrintMore
set_option linter.unusedSimpArgs false
set_option linter.unusedVariables false

inductive Cmp : List U → List U → List U → Prop
  | nil : Cmp [] [] []
  | del (t : ByteArray) {p q w : List U} : Cmp p q w → Cmp (.del t :: p) q (.del t :: w)
  | ins (t : ByteArray) {p q w : List U} : NoD p → Cmp p q w → Cmp p (.ins t :: q) (.ins t :: w)
  | mid {p q a w : List U} : NoD p → NoI q → p ≠ [] ∨ q ≠ [] → midU (nxU p) (nxU q) = some a → Cmp p.tail q.tail w → Cmp p q (a ++ w)
theorem Cmp.of : ∀ p q, ∀ (e : Bool) (w : List U), cmpU p e q = some w → Cmp p q w := by
  refine walk_ind ?_ ?_ ?_ ?_
  · intro e w h
    rw [cmpU_nil] at h
    rw [← Option.some.inj h]; exact .nil
  · intro t p q ih e w h
    rw [cmpU_del] at h
    obtain ⟨w', h', rfl⟩ := Option.map_eq_some_iff.mp h
    exact .del t (ih e w' h')
  · intro t p q hp ih e w h
    rw [cmpU_ins hp] at h
    obtain ⟨w', h', rfl⟩ := Option.map_eq_some_iff.mp h
    exact .ins t hp (ih e w' h')
  · intro p q hp hq hne ih e w h
    rw [cmpU_mid hp hq hne] at h
    split at h
    · simp at h
    · obtain ⟨a, ha, h⟩ := Option.bind_eq_some_iff.mp h
      obtain ⟨w', h', rfl⟩ := Option.map_eq_some_iff.mp h
      exact .mid hp hq hne ha (ih _ w' h')
theorem Cmp.inv_nil {w : List U} (h : Cmp [] [] w) : w = [] := by
  cases h with
  | nil => rfl
  | mid _ _ hne => simp at hne
theorem Cmp.inv_del {t : ByteArray} {p q w : List U} (h : Cmp (.del t :: p) q w) : ∃ w', w = .del t :: w' ∧ Cmp p q w' := by
  cases h with
  | del _ h => exact ⟨_, rfl, h⟩
  | ins _ hp => exact absurd rfl (hp _ _)
  | mid hp => exact absurd rfl (hp _ _)
theorem Cmp.inv_ins {t : ByteArray} {p q w : List U} (hp : NoD p) (h : Cmp p (.ins t :: q) w) : ∃ w', w = .ins t :: w' ∧ Cmp p q w' := by
  cases h with
  | del _ h => exact absurd rfl (hp _ _)
  | ins _ _ h => exact ⟨_, rfl, h⟩
  | mid _ hq => exact absurd rfl (hq _ _)
theorem Cmp.inv_mid {p q w : List U} (hp : NoD p) (hq : NoI q) (hne : p ≠ [] ∨ q ≠ []) (h : Cmp p q w) : ∃ a w', w = a ++ w' ∧ midU (nxU p) (nxU q) = some a ∧ Cmp p.tail q.tail w' := by
  cases h with
  | nil => simp at hne
  | del _ h => exact absurd rfl (hp _ _)
  | ins _ _ h => exact absurd rfl (hq _ _)
  | mid _ _ _ ha h => exact ⟨_, _, rfl, ha, h⟩
theorem Cmp.det {p q w : List U} (h : Cmp p q w) : ∀ {v : List U}, Cmp p q v → w = v := by
  induction h with
  | nil => intro v h; exact h.inv_nil.symm
  | del t _ ih => intro v h; obtain ⟨v', rfl, h'⟩ := h.inv_del; rw [ih h']
  | ins t hp _ ih => intro v h; obtain ⟨v', rfl, h'⟩ := h.inv_ins hp; rw [ih h']
  | mid hp hq hne ha _ ih =>
    intro v h
    obtain ⟨b, v', rfl, hb, h'⟩ := h.inv_mid hp hq hne
    rw [ha] at hb
    rw [ih h', Option.some.inj hb]
theorem Cmp.left_nil : ∀ (q : List U) {w : List U}, Cmp [] q w → w = q
  | [], w, h => h.inv_nil
  | y :: q, w, h => by
    rcases noI_or (y :: q) with hq | ⟨t, r, e⟩
    · obtain ⟨a, w', rfl, ha, h'⟩ := h.inv_mid noD_nil hq (.inr (by simp))
      rw [Cmp.left_nil q h']
      cases y <;> first | exact absurd rfl (hq _ _) | (simp only [nxU, midU, midT, Option.map_some, Option.some.injEq] at ha; subst ha; rfl)
    · obtain ⟨rfl, rfl⟩ := List.cons.inj e
      obtain ⟨w', rfl, h'⟩ := h.inv_ins noD_nil
      rw [Cmp.left_nil q h']
theorem Cmp.right_nil : ∀ (p : List U) {w : List U}, Cmp p [] w → w = p
  | [], w, h => h.inv_nil
  | x :: p, w, h => by
    rcases noD_or (x :: p) with hp | ⟨t, r, e⟩
    · obtain ⟨a, w', rfl, ha, h'⟩ := h.inv_mid hp noI_nil (.inl (by simp))
      rw [Cmp.right_nil p h']
      cases x <;> first | exact absurd rfl (hp _ _) | (simp only [nxU, midU, midT, Option.map_some, Option.some.injEq] at ha; subst ha; rfl)
    · obtain ⟨rfl, rfl⟩ := List.cons.inj e
      obtain ⟨w', rfl, h'⟩ := h.inv_del
      rw [Cmp.right_nil p h']
/-- A line that stays, for the second, or for the first. -/
def stayU (y : U) : Prop := y = .skip ∨ ∃ t, y = .keep t
theorem mid_stay2 {x y : U} {w : List U} (hy : stayU y) (h : midU x y = some w) : ∃ a, w = [a] ∧ ∀ t, a ≠ .del t := by
  rcases hy with rfl | ⟨t, rfl⟩ <;> cases x <;> simp only [midU, midT] at h <;> (try split at h) <;> simp at h <;> subst h <;> exact ⟨_, rfl, fun t e => by simp at e⟩
theorem mid_stay1 {x y : U} {w : List U} (hx : stayU x) (h : midU x y = some w) : ∃ a, w = [a] ∧ ∀ t, a ≠ .ins t := by
  rcases hx with rfl | ⟨t, rfl⟩ <;> cases y <;> simp only [midU, midT] at h <;> (try split at h) <;> simp at h <;> subst h <;> exact ⟨_, rfl, fun t e => by simp at e⟩
theorem mid_assoc {x y z a b : U} {u v : List U} (hy : stayU y) (h1 : midU x y = some [a]) (h2 : midU y z = some [b]) (h3 : midU a z = some u) (h4 : midU x b = some v) : u = v := by
  rcases hy with rfl | ⟨t, rfl⟩ <;> cases x <;> simp only [midU, midT] at h1 <;> (try split at h1) <;> simp [un] at h1 <;> subst h1 <;>
    cases z <;> simp only [midU, midT] at h2 h3 <;> (try split at h2) <;> simp [un] at h2 <;> subst h2 <;> simp only [midU, midT] at h4 <;> (try split at h3) <;> (try split at h4) <;> simp [un] at h3 h4 <;> simp_all
theorem stay_of {y : U} (h1 : ∀ t, y ≠ .ins t) (h2 : ∀ t, y ≠ .del t) : stayU y := by
  cases y with
  | skip => exact .inl rfl
  | keep t => exact .inr ⟨t, rfl⟩
  | del t => exact absurd rfl (h2 t)
  | ins t => exact absurd rfl (h1 t)
theorem Cmp.assoc : ∀ (n : Nat) (p q r : List U), p.length + q.length + r.length ≤ n → ∀ {a b x y : List U}, Cmp p q a → Cmp q r b → Cmp a r x → Cmp p b y → x = y := by
  intro n
  induction n with
  | zero =>
    intro p q r hn a b x y ha hb hx hy
    obtain rfl : p = [] := List.length_eq_zero_iff.mp (by omega)
    obtain rfl : q = [] := List.length_eq_zero_iff.mp (by omega)
    rw [Cmp.left_nil _ ha] at hx
    rw [Cmp.left_nil _ hy]
    exact hx.det hb
  | succ n ih =>
    intro p q r hn a b x y ha hb hx hy
    match p, q, r, hn, ha, hb with
    | [], q, r, hn, ha, hb =>
      rw [Cmp.left_nil _ ha] at hx
      rw [Cmp.left_nil _ hy]
      exact hx.det hb
    | p, [], r, hn, ha, hb =>
      rw [Cmp.right_nil _ ha] at hx
      rw [Cmp.left_nil _ hb] at hy
      exact hx.det hy
    | p, q, [], hn, ha, hb =>
      rw [Cmp.right_nil _ hb] at hy
      rw [Cmp.right_nil _ hx]
      exact ha.det hy
    | X :: p, Y :: q, Z :: r, hn, ha, hb =>
      simp only [List.length_cons] at hn
      rcases noD_or (X :: p) with hp | ⟨t, p', e⟩
      · by_cases yi : ∃ t, Y = .ins t
        · obtain ⟨t, rfl⟩ := yi
          obtain ⟨a', rfl, ha'⟩ := ha.inv_ins hp
          have nq : NoD (.ins t :: q) := noD_cons fun t e => by simp at e
          have na : NoD (.ins t :: a') := noD_cons fun t e => by simp at e
          rcases noI_or (Z :: r) with hr | ⟨s, r', e⟩
          · obtain ⟨w, b', rfl, hw, hb'⟩ := hb.inv_mid nq hr (.inr (by simp))
            obtain ⟨w2, x', rfl, hw2, hx'⟩ := hx.inv_mid na hr (.inr (by simp))
            simp only [nxU_cons, List.tail_cons] at hw hw2 hb' hx'
            rw [hw] at hw2
            obtain rfl := Option.some.inj hw2
            have hi := mid_ins hw
            have out : ∀ (I : List U), AllIns I → ∀ {y : List U}, Cmp (X :: p) (I ++ b') y → ∃ y', y = I ++ y' ∧ Cmp (X :: p) b' y' := by
              intro I
              induction I with
              | nil => intro _ y h; exact ⟨y, rfl, h⟩
              | cons i I ihI =>
                intro hI y h
                obtain ⟨s, rfl⟩ := hI.head
                obtain ⟨y', rfl, h'⟩ := h.inv_ins hp
                obtain ⟨y'', rfl, h''⟩ := ihI hI.tail h'
                exact ⟨y'', rfl, h''⟩
            obtain ⟨y', rfl, hy'⟩ := out w hi hy
            rw [ih (X :: p) q r (by simp only [List.length_cons]; omega) ha' hb' hx' hy']
          · obtain ⟨rfl, rfl⟩ := List.cons.inj e
            obtain ⟨b', rfl, hb'⟩ := hb.inv_ins nq
            obtain ⟨x', rfl, hx'⟩ := hx.inv_ins na
            obtain ⟨y', rfl, hy'⟩ := hy.inv_ins hp
            rw [ih (X :: p) (.ins t :: q) r (by simp only [List.length_cons]; omega) ha hb' hx' hy']
        · have hq : NoI (Y :: q) := noI_cons fun t e => yi ⟨t, e⟩
          obtain ⟨wa, a', rfl, hwa, ha'⟩ := ha.inv_mid hp hq (.inl (by simp))
          simp only [nxU_cons, List.tail_cons] at hwa ha'
          by_cases yd : ∃ t, Y = .del t
          · obtain ⟨t, rfl⟩ := yd
            obtain ⟨b', rfl, hb'⟩ := hb.inv_del
            have nb : NoI (.del t :: b') := noI_cons fun t e => by simp at e
            obtain ⟨wy, y', rfl, hwy, hy'⟩ := hy.inv_mid hp nb (.inl (by simp))
            simp only [nxU_cons, List.tail_cons] at hwy hy'
            rw [hwa] at hwy
            obtain rfl := Option.some.inj hwy
            have hd := mid_del hwa
            have out : ∀ (D : List U), AllDel D → ∀ {x : List U}, Cmp (D ++ a') (Z :: r) x → ∃ x', x = D ++ x' ∧ Cmp a' (Z :: r) x' := by
              intro D
              induction D with
              | nil => intro _ x h; exact ⟨x, rfl, h⟩
              | cons d D ihD =>
                intro hD x h
                obtain ⟨s, rfl⟩ := hD d (List.mem_cons_self ..)
                obtain ⟨x', rfl, h'⟩ := h.inv_del
                obtain ⟨x'', rfl, h''⟩ := ihD (fun z hz => hD z (List.mem_cons_of_mem _ hz)) h'
                exact ⟨x'', rfl, h''⟩
            obtain ⟨x', rfl, hx'⟩ := out wa hd hx
            rw [ih p q (Z :: r) (by simp only [List.length_cons]; omega) ha' hb' hx' hy']
          · have sy : stayU Y := stay_of (fun t e => yi ⟨t, e⟩) (fun t e => yd ⟨t, e⟩)
            have nq : NoD (Y :: q) := noD_cons fun t e => yd ⟨t, e⟩
            obtain ⟨A, rfl, hA⟩ := mid_stay2 sy hwa
            have na : NoD (A :: a') := noD_cons hA
            rcases noI_or (Z :: r) with hr | ⟨s, r', e⟩
            · obtain ⟨wb, b', rfl, hwb, hb'⟩ := hb.inv_mid nq hr (.inr (by simp))
              simp only [nxU_cons, List.tail_cons] at hwb hb'
              obtain ⟨B, rfl, hB⟩ := mid_stay1 sy hwb
              have nb : NoI (B :: b') := noI_cons hB
              obtain ⟨wx, x', rfl, hwx, hx'⟩ := hx.inv_mid na hr (.inr (by simp))
              obtain ⟨wy, y', rfl, hwy, hy'⟩ := hy.inv_mid hp nb (.inl (by simp))
              have e1 : wx = wy := mid_assoc sy hwa hwb hwx hwy
              have e2 : x' = y' := ih p q r (by omega) ha' hb' hx' hy'
              rw [e1, e2]
            · obtain ⟨rfl, rfl⟩ := List.cons.inj e
              obtain ⟨b', rfl, hb'⟩ := hb.inv_ins nq
              obtain ⟨x', rfl, hx'⟩ := hx.inv_ins na
              obtain ⟨y', rfl, hy'⟩ := hy.inv_ins hp
              rw [ih (X :: p) (Y :: q) r (by simp only [List.length_cons]; omega) ha hb' hx' hy']
      · obtain ⟨rfl, rfl⟩ := List.cons.inj e
        obtain ⟨a', rfl, ha'⟩ := ha.inv_del
        obtain ⟨x', rfl, hx'⟩ := hx.inv_del
        obtain ⟨y', rfl, hy'⟩ := hy.inv_del
        rw [ih p (Y :: q) (Z :: r) (by simp only [List.length_cons]; omega) ha' hb hx' hy']
theorem nx_len (p : List U) : ∃ k, (olds p).length + k = (olds [nxU p]).length + (olds p.tail).length ∧ (news p).length + k = (news [nxU p]).length + (news p.tail).length ∧ chU p = chU [nxU p] + chU p.tail := by
  cases p with
  | nil => exact ⟨1, rfl, rfl, rfl⟩
  | cons x p =>
    refine ⟨0, ?_, ?_, ?_⟩
    · show (olds ([x] ++ p)).length + 0 = _
      rw [olds_app, List.length_append]; rfl
    · show (news ([x] ++ p)).length + 0 = _
      rw [news_app, List.length_append]; rfl
    · show chU ([x] ++ p) = _
      rw [chU_app]; rfl
theorem mid_len {x y : U} {a : List U} (h : midU x y = some a) : (news a).length + (olds [x]).length + (olds [y]).length = (olds a).length + (news [x]).length + (news [y]).length ∧ (olds [x]).length ≤ (olds a).length ∧ (news [y]).length ≤ (news a).length ∧ chU a ≤ chU [x] + chU [y] := by
  cases x <;> cases y <;> simp only [midU, midT] at h <;> (try split at h) <;> simp [un] at h <;> subst h <;> simp [olds, news, chU_del, chU_ins, chU_keep, chU_skip, chU_nil]
theorem Cmp.counts {p q w : List U} (h : Cmp p q w) : (news w).length + (olds p).length + (olds q).length = (olds w).length + (news p).length + (news q).length ∧ (olds p).length ≤ (olds w).length ∧ (news q).length ≤ (news w).length ∧ chU w ≤ chU p + chU q := by
  induction h with
  | nil => simp [olds, news, chU]
  | del t _ ih =>
    simp only [olds, news, List.length_cons, chU_del]; omega
  | ins t _ _ ih =>
    simp only [olds, news, List.length_cons, chU_ins]; omega
  | mid hp hq hne ha _ ih =>
    rename_i p q a w _
    obtain ⟨k, k1, k2, k3⟩ := nx_len p
    obtain ⟨m, m1, m2, m3⟩ := nx_len q
    obtain ⟨h1, h2, h3, h4⟩ := mid_len ha
    rw [olds_app, news_app, chU_app, List.length_append, List.length_append]
    omega
/-- Turned back: the second turned back, and then the first. -/
theorem nxU_flip (p : List U) : nxU (flipU p) = flipX (nxU p) := by cases p <;> rfl
theorem tail_flip (p : List U) : (flipU p).tail = flipU p.tail := by cases p <;> rfl
theorem noD_flip {q : List U} (h : NoI q) : NoD (flipU q) := by
  cases q with
  | nil => exact noD_nil
  | cons y q => cases y <;> first | exact absurd rfl (h _ _) | exact noD_cons fun t e => by simp [flipX] at e
theorem noI_flip {q : List U} (h : NoD q) : NoI (flipU q) := by
  cases q with
  | nil => exact noI_nil
  | cons y q => cases y <;> first | exact absurd rfl (h _ _) | exact noI_cons fun t e => by simp [flipX] at e
theorem mid_flip (x y : U) (hx : ∀ t, x ≠ .del t) (hy : ∀ t, y ≠ .ins t) : midU (flipX y) (flipX x) = (midU x y).map flipU := by
  cases x <;> cases y <;> first | exact absurd rfl (hx _) | exact absurd rfl (hy _) | rfl | skip
  all_goals
    simp only [flipX, midU, midT, eq_comm]
    split
    · rename_i e; subst e; rfl
    · rfl
theorem opM_flip (x y : U) : opM (flipX y) (flipX x) = opM x y := by
  cases x <;> cases y <;> simp [opM, flipX, opnX, txU, Bool.or_comm]
theorem nfO_flip {o1 o2 : Option (List U)} (h : nfO o1 = nfO o2) (x : List U) : nfO (o1.map (x ++ ·)) = nfO (o2.map (x ++ ·)) := nfO_app h x
theorem flip_cmp : ∀ p q, ∀ e : Bool, nfO ((cmpU p e q).map flipU) = nfO (cmpU (flipU q) e (flipU p)) := by
  refine walk_ind ?_ ?_ ?_ ?_
  · intro e; rfl
  · intro t p q ih e
    rw [cmpU_del, Option.map_map]
    have h1 := pass2 [.ins t] (flipU p) (AllIns.one t) (flipU q) e
    have h2 := nfO_app (ih e) [.ins t]
    rw [Option.map_map] at h2
    exact h2.trans h1.symm
  · intro t p q hp ih e
    rw [cmpU_ins hp, Option.map_map, show flipU (.ins t :: q) = .del t :: flipU q from rfl, cmpU_del]
    have h2 := nfO_app (ih e) [.del t]
    rw [Option.map_map] at h2
    exact h2
  · intro p q hp hq hne ih e
    have ne2 : flipU q ≠ [] ∨ flipU p ≠ [] := by
      rcases hne with h | h
      · exact .inr (by simpa [flipU] using h)
      · exact .inl (by simpa [flipU] using h)
    have hx : ∀ t, nxU p ≠ .del t := by
      cases p with
      | nil => intro t e; simp [nxU] at e
      | cons x p => intro t e; exact hp t p (by rw [show x = .del t from e])
    have hy : ∀ t, nxU q ≠ .ins t := by
      cases q with
      | nil => intro t e; simp [nxU] at e
      | cons x p => intro t e; exact hq t p (by rw [show x = .ins t from e])
    rw [cmpU_mid hp hq hne, cmpU_mid (noD_flip hq) (noI_flip hp) ne2, nxU_flip, nxU_flip, mid_flip _ _ hx hy, opM_flip, tail_flip, tail_flip]
    split
    · rfl
    · cases midU (nxU p) (nxU q) with
      | none => rfl
      | some a =>
        simp only [Option.bind_some, Option.map_some, Option.map_map]
        have h2 := nfO_app (ih (opM (nxU p) (nxU q))) (flipU a)
        rw [Option.map_map] at h2
        have e1 : (flipU ∘ fun x => a ++ x) = ((fun x => flipU a ++ x) ∘ flipU) := by funext r; simp [flipU]
        rw [e1]; exact h2
theorem nf_flip_cong {u v : List U} (h : nf [] u = nf [] v) : nf [] (flipU u) = nf [] (flipU v) := by
  have a := nf_flip_nf u [] [] .nil
  have b := nf_flip_nf v [] [] .nil
  rw [show flipU [] = [] from rfl, List.nil_append] at a b
  rw [← a, ← b, h]
/-- Nothing, ahead or behind; and back. -/
theorem cmpU_none1 : ∀ (q : List U) (e : Bool), closedS e (olds q) = true → cmpU [] e q = some q
  | [], e, _ => rfl
  | .ins t :: q, e, h => by rw [cmpU_ins noD_nil, cmpU_none1 q e h]; rfl
  | .skip :: q, e, h => by
    cases e
    · rw [cmpU_mid noD_nil (noI_cons fun t e => by simp at e) (.inr (by simp))]
      have := cmpU_none1 q false (by simpa [olds, closedS] using h)
      simpa [nxU, midU, midT, un, opM, opnX] using this
    · simp [olds, closedS] at h
  | .keep t :: q, e, h => by
    cases e
    · rw [cmpU_mid noD_nil (noI_cons fun t e => by simp at e) (.inr (by simp))]
      have := cmpU_none1 q (openT t) (by simpa [olds, closedS] using h)
      simpa [nxU, midU, midT, un, opM, opnX, txU] using this
    · simp [olds, closedS] at h
  | .del t :: q, e, h => by
    cases e
    · rw [cmpU_mid noD_nil (noI_cons fun t e => by simp at e) (.inr (by simp))]
      have := cmpU_none1 q (openT t) (by simpa [olds, closedS] using h)
      simpa [nxU, midU, midT, un, opM, opnX, txU] using this
    · simp [olds, closedS] at h
theorem cmpU_none2 : ∀ (p : List U) (e : Bool), closedS e (news p) = true → cmpU p e [] = some p
  | [], e, _ => rfl
  | .del t :: p, e, h => by rw [cmpU_del, cmpU_none2 p e h]; rfl
  | .skip :: p, e, h => by
    cases e
    · rw [cmpU_mid (noD_cons fun t e => by simp at e) noI_nil (.inl (by simp))]
      have := cmpU_none2 p false (by simpa [news, closedS] using h)
      simpa [nxU, midU, midT, un, opM, opnX] using this
    · simp [news, closedS] at h
  | .keep t :: p, e, h => by
    cases e
    · rw [cmpU_mid (noD_cons fun t e => by simp at e) noI_nil (.inl (by simp))]
      have := cmpU_none2 p (openT t) (by simpa [news, closedS] using h)
      simpa [nxU, midU, midT, un, opM, opnX, txU] using this
    · simp [news, closedS] at h
  | .ins t :: p, e, h => by
    cases e
    · rw [cmpU_mid (noD_cons fun t e => by simp at e) noI_nil (.inl (by simp))]
      have := cmpU_none2 p (openT t) (by simpa [news, closedS] using h)
      simpa [nxU, midU, midT, un, opM, opnX, txU] using this
    · simp [news, closedS] at h
theorem cmpU_back : ∀ (p I : List U) (e : Bool), AllIns I → closedS e (news p) = true → ∃ w, cmpU p e (I ++ flipU p) = some w ∧ olds w = olds p ∧ news w = news I ++ olds p
  | [], I, e, hI, _ => ⟨I, by rw [ins2 noD_nil _ e I hI]; simp [flipU, cmpU_nil], by rw [hI.olds]; rfl, by simp [olds]⟩
  | .del t :: p, I, e, hI, h => by
    obtain ⟨w, h1, h2, h3⟩ := cmpU_back p (I ++ [.ins t]) e (hI.snoc t) h
    rw [List.append_assoc, List.singleton_append] at h1
    refine ⟨.del t :: w, ?_, by rw [olds, olds, h2], ?_⟩
    · rw [show flipU (.del t :: p) = .ins t :: flipU p from rfl, cmpU_del, h1]; rfl
    · rw [news, h3, news_app]; simp [news, olds]
  | .skip :: p, I, e, hI, h => by
    cases e
    · obtain ⟨w, h1, h2, h3⟩ := cmpU_back p [] false .nil (by simpa [news, closedS] using h)
      have n : NoD (.skip :: p) := noD_cons fun t e => by simp at e
      refine ⟨I ++ .skip :: w, ?_, by simp [olds_app, hI.olds, olds, h2], by simp [news_app, news, olds, h3]⟩
      rw [ins2 n _ _ I hI, show flipU (.skip :: p) = .skip :: flipU p from rfl, cmpU_mid n (noI_cons fun t e => by simp at e) (.inl (by simp))]
      rw [List.nil_append] at h1
      simp [nxU, midU, midT, un, opM, opnX, h1]
    · simp [news, closedS] at h
  | .keep t :: p, I, e, hI, h => by
    cases e
    · obtain ⟨w, h1, h2, h3⟩ := cmpU_back p [] (openT t) .nil (by simpa [news, closedS] using h)
      have n : NoD (.keep t :: p) := noD_cons fun t e => by simp at e
      refine ⟨I ++ .keep t :: w, ?_, by simp [olds_app, hI.olds, olds, h2], by simp [news_app, news, olds, h3]⟩
      rw [ins2 n _ _ I hI, show flipU (.keep t :: p) = .keep t :: flipU p from rfl, cmpU_mid n (noI_cons fun t e => by simp at e) (.inl (by simp))]
      rw [List.nil_append] at h1
      simp [nxU, midU, midT, un, opM, opnX, txU, h1]
    · simp [news, closedS] at h
  | .ins t :: p, I, e, hI, h => by
    cases e
    · obtain ⟨w, h1, h2, h3⟩ := cmpU_back p [] (openT t) .nil (by simpa [news, closedS] using h)
      have n : NoD (.ins t :: p) := noD_cons fun t e => by simp at e
      refine ⟨I ++ w, ?_, by simp [olds_app, hI.olds, olds, h2], by simp [news_app, olds, h3, news]⟩
      rw [ins2 n _ _ I hI, show flipU (.ins t :: p) = .del t :: flipU p from rfl, cmpU_mid n (noI_cons fun t e => by simp at e) (.inl (by simp))]
      rw [List.nil_append] at h1
      simp [nxU, midU, midT, un, opM, opnX, txU, h1]
    · simp [news, closedS] at h
end Go.Proofs.Ytfoponahdidddaa.P
