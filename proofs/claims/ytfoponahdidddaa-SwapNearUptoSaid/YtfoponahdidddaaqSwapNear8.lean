/- Own and printed texts that the theorem of SwapNear reaches, put together. -/
import Derived.Test.YtfoponahdidddaaqSwapNear5
set_option linter.unusedVariables false
set_option linter.unusedSimpArgs false
namespace Go.Proofs.Ytfoponahdidddaa.P
open Go.RowKit Go.Proofs.YtfoponahdidddaaW.PrintWords Go.Proofs.YtfoponahdidddaaW.PrintLast Go.Proofs.YtfoponahdidddaaW.PrintMore
abbrev skU (n : Nat) : List U := List.replicate n .skip
abbrev skT (n : Nat) : List TU := List.replicate n ((.skip, 0) : TU)
theorem cmp_sk : ∀ (n : Nat) (p q : List U), cmpT (skU n ++ p) false (skU n ++ q) = (cmpT p false q).map (skT n ++ ·)
 | 0, p, q => by cases h : cmpT p false q <;> simp [skU, skT, h]
 | n + 1, p, q => cmpT_skips n _ _ p q (.inl rfl) (.inl rfl) (.inl (by simp [List.replicate_succ]))
theorem cmp_skR : ∀ (n : Nat) (q : List U), cmpT [] false (skU n ++ q) = (cmpT [] false q).map (skT n ++ ·)
 | 0, q => by cases h : cmpT [] false q <;> simp [skU, skT, h]
 | n + 1, q => cmpT_skips n _ _ [] q (.inr ⟨rfl, rfl⟩) (.inl rfl) (.inr (by simp [List.replicate_succ]))
def fineU (x : U) : Bool := match x with
 | .skip => true
 | .keep t => rightT t && !openT t
 | .del t => rightT t && !openT t
 | .ins t => rightT t && !openT t
def fineS (x : Option ByteArray) : Bool := match x with
 | none => true
 | some t => rightT t && !openT t
theorem fine_olds : ∀ u : List U, u.all fineU = true → (olds u).all fineS = true ∧ (olds u).length ≤ u.length
 | [], _ => ⟨rfl, Nat.le_refl _⟩
 | x :: u, h => by
  rw [List.all_cons, Bool.and_eq_true] at h
  obtain ⟨i1, i2⟩ := fine_olds u h.2
  cases x with
  | skip => exact ⟨by rw [olds, List.all_cons, i1]; rfl, by simp only [olds, List.length_cons]; omega⟩
  | keep t => exact ⟨by rw [olds, List.all_cons, i1]; simpa [fineS, fineU] using h.1, by simp only [olds, List.length_cons]; omega⟩
  | del t => exact ⟨by rw [olds, List.all_cons, i1]; simpa [fineS, fineU] using h.1, by simp only [olds, List.length_cons]; omega⟩
  | ins t => exact ⟨by rw [olds, i1], by simp only [olds, List.length_cons]; omega⟩
theorem fine_news : ∀ u : List U, u.all fineU = true → (news u).all fineS = true ∧ (news u).length ≤ u.length
 | [], _ => ⟨rfl, Nat.le_refl _⟩
 | x :: u, h => by
  rw [List.all_cons, Bool.and_eq_true] at h
  obtain ⟨i1, i2⟩ := fine_news u h.2
  cases x with
  | skip => exact ⟨by rw [news, List.all_cons, i1]; rfl, by simp only [news, List.length_cons]; omega⟩
  | keep t => exact ⟨by rw [news, List.all_cons, i1]; simpa [fineS, fineU] using h.1, by simp only [news, List.length_cons]; omega⟩
  | ins t => exact ⟨by rw [news, List.all_cons, i1]; simpa [fineS, fineU] using h.1, by simp only [news, List.length_cons]; omega⟩
  | del t => exact ⟨by rw [news, i1], by simp only [news, List.length_cons]; omega⟩
theorem fine_ok : ∀ s : List (Option ByteArray), s.all fineS = true → textS s = true ∧ closedS false s = true
 | [], _ => ⟨rfl, rfl⟩
 | none :: s, h => by
  have i := fine_ok s (by simpa [fineS] using h)
  exact ⟨by show (true && textS s) = true; rw [i.1]; rfl, i.2⟩
 | some t :: s, h => by
  rw [List.all_cons, Bool.and_eq_true] at h
  have i := fine_ok s h.2
  have ht : rightT t = true ∧ openT t = false := by simpa [fineS] using h.1
  exact ⟨by show (rightT t && textS s) = true; rw [ht.1, i.1]; rfl, by rw [closedS, ht.2]; exact i.2⟩
theorem fine_right {u : List U} (h : u.all fineU = true) (hl : u.length ≤ 2147483648) : rightU u = true := by
 obtain ⟨a1, a2⟩ := fine_olds u h
 obtain ⟨b1, b2⟩ := fine_news u h
 obtain ⟨c1, c2⟩ := fine_ok _ a1
 obtain ⟨d1, d2⟩ := fine_ok _ b1
 exact rightU_mk (okS_mk c1 c2 (by omega)) (okS_mk d1 d2 (by omega))
theorem fine_sk (n : Nat) : (skU n).all fineU = true := by simp [skU, fineU]
theorem touch_sk {n : Nat} (hn : 0 < n) (b : Int) (W : List TU) : touchT b (skT n ++ W) = touchT 0 W := by
 cases n with
 | zero => omega
 | succ n => exact touch_skips n b W
theorem nf_sk {n : Nat} (hn : 0 < n) (I u : List U) : nf I (skU n ++ u) = I ++ (skU n ++ nf [] u) := by
 cases n with
 | zero => omega
 | succ n =>
  show nf I (.skip :: (skU n ++ u)) = I ++ (.skip :: (skU n ++ nf [] u))
  rw [nf, nf_skips]
theorem pack_sk {n : Nat} (hn : 0 < n) (u : List U) (h : NoSkU u) : pack (skU n ++ u) = ⟨1, (n : Int), ⟨#[]⟩⟩ :: pack u := by
 cases n with
 | zero => omega
 | succ n => exact pack_skips n u h
theorem ex_sk {a : Int} (h : 0 ≤ a) (r : List Op) : ex ((⟨1, a, ⟨#[]⟩⟩ : Op) :: r) = skU a.toNat ++ ex r := by
 rw [ex_cons]; rfl
end Go.Proofs.Ytfoponahdidddaa.P
