/- Own: the order of what goes and what comes turns nothing; turned back steps undo. -/
import Derived.Test.YtfoponahdidddaaDa
namespace Go.Proofs.Ytfoponahdidddaa.P
open Go.RowKit Go.Proofs.YtfoponahdidddaaW.PrintWords Go.Proofs.YtfoponahdidddaaW.PrintLast Go.Proofs.YtfoponahdidddaaW.PrintMore

theorem doU_ins : ∀ (I : List U), AllIns I → ∀ (v : List U) (ls : List ByteArray), doU (I ++ v) ls = (doU v ls).map (I.map txU ++ ·)
  | [], _, v, ls => by simp
  | x :: I, h, v, ls => by
    obtain ⟨t, rfl⟩ := h x (List.mem_cons_self ..)
    rw [List.cons_append, doU, doU_ins I (fun y hy => h y (List.mem_cons_of_mem _ hy)) v ls, Option.map_map]
    rfl
theorem doU_nf : ∀ (u I : List U), AllIns I → ∀ ls : List ByteArray, doU (nf I u) ls = (doU u ls).map (I.map txU ++ ·)
  | [], I, h, ls => by
    have := doU_ins I h [] ls
    rw [List.append_nil] at this
    rw [nf, this]
  | .ins t :: u, I, h, ls => by
    rw [nf, doU_nf u _ (h.snoc t), doU, Option.map_map]
    simp [Function.comp_def, txU]
  | .del t :: u, I, h, [] => by rw [nf, doU, doU]; rfl
  | .del t :: u, I, h, x :: ls => by
    rw [nf, doU, doU, doU_nf u I h]
    split <;> rfl
  | .keep t :: u, I, h, [] => by rw [nf, doU_ins I h, doU, doU]
  | .keep t :: u, I, h, x :: ls => by
    rw [nf, doU_ins I h, doU, doU, doU_nf u [] .nil]
    simp
  | .skip :: u, I, h, [] => by rw [nf, doU_ins I h, doU, doU]
  | .skip :: u, I, h, x :: ls => by
    rw [nf, doU_ins I h, doU, doU, doU_nf u [] .nil]
    simp
theorem doU_nf0 (u : List U) (ls : List ByteArray) : doU (nf [] u) ls = doU u ls := by
  rw [doU_nf u [] .nil]; simp
theorem doU_flip : ∀ (u : List U) (ls r : List ByteArray), doU u ls = some r → doU (flipU u) r = some ls
  | [], ls, r, h => by rw [doU] at h; rw [← Option.some.inj h]; rfl
  | .ins t :: u, ls, r, h => by
    rw [doU] at h
    obtain ⟨r', h', rfl⟩ := Option.map_eq_some_iff.mp h
    show doU (.del t :: flipU u) (t :: r') = _
    rw [doU, if_pos rfl, doU_flip u ls r' h']
  | .del t :: u, [], r, h => by rw [doU] at h; simp at h
  | .del t :: u, x :: ls, r, h => by
    rw [doU] at h
    split at h
    · rename_i e
      show doU (.ins t :: flipU u) r = _
      rw [doU, doU_flip u ls r h, e]; rfl
    · simp at h
  | .keep t :: u, [], r, h => by rw [doU] at h; simp at h
  | .keep t :: u, x :: ls, r, h => by
    rw [doU] at h
    split at h
    · rename_i e
      obtain ⟨r', h', rfl⟩ := Option.map_eq_some_iff.mp h
      show doU (.keep t :: flipU u) (x :: r') = _
      rw [doU, if_pos e, doU_flip u ls r' h']; rfl
    · simp at h
  | .skip :: u, [], r, h => by rw [doU] at h; simp at h
  | .skip :: u, x :: ls, r, h => by
    rw [doU] at h
    obtain ⟨r', h', rfl⟩ := Option.map_eq_some_iff.mp h
    show doU (.skip :: flipU u) (x :: r') = _
    rw [doU, doU_flip u ls r' h']; rfl
/-- How many lines come. -/
def insN : List U → Nat
  | [] => 0
  | .ins _ :: u => insN u + 1
  | .skip :: u => insN u
  | .keep _ :: u => insN u
  | .del _ :: u => insN u
theorem doU_len : ∀ (u : List U) (ls r : List ByteArray), doU u ls = some r → r.length ≤ ls.length + insN u
  | [], ls, r, h => by rw [doU] at h; rw [Option.some.inj h]; exact Nat.le_refl _
  | .ins t :: u, ls, r, h => by
    rw [doU] at h
    obtain ⟨r', h', rfl⟩ := Option.map_eq_some_iff.mp h
    have := doU_len u ls r' h'
    simp only [List.length_cons, insN]; omega
  | .del t :: u, [], r, h => by rw [doU] at h; simp at h
  | .del t :: u, x :: ls, r, h => by
    rw [doU] at h
    split at h
    · have := doU_len u ls r h
      simp only [List.length_cons, insN]; omega
    · simp at h
  | .keep t :: u, [], r, h => by rw [doU] at h; simp at h
  | .keep t :: u, x :: ls, r, h => by
    rw [doU] at h
    split at h
    · obtain ⟨r', h', rfl⟩ := Option.map_eq_some_iff.mp h
      have := doU_len u ls r' h'
      simp only [List.length_cons, insN]; omega
    · simp at h
  | .skip :: u, [], r, h => by rw [doU] at h; simp at h
  | .skip :: u, x :: ls, r, h => by
    rw [doU] at h
    obtain ⟨r', h', rfl⟩ := Option.map_eq_some_iff.mp h
    have := doU_len u ls r' h'
    simp only [List.length_cons, insN]; omega
theorem doU_mem : ∀ (u : List U) (ls r : List ByteArray), doU u ls = some r → ∀ y ∈ r, y ∈ ls ∨ ∃ x ∈ u, y = txU x
  | [], ls, r, h, y, hy => by rw [doU] at h; rw [Option.some.inj h]; exact .inl hy
  | .ins t :: u, ls, r, h, y, hy => by
    rw [doU] at h
    obtain ⟨r', h', rfl⟩ := Option.map_eq_some_iff.mp h
    rcases List.mem_cons.mp hy with rfl | hy
    · exact .inr ⟨_, List.mem_cons_self .., rfl⟩
    · rcases doU_mem u ls r' h' y hy with h | ⟨x, hx, e⟩
      · exact .inl h
      · exact .inr ⟨x, List.mem_cons_of_mem _ hx, e⟩
  | .del t :: u, [], r, h, y, hy => by rw [doU] at h; simp at h
  | .del t :: u, x :: ls, r, h, y, hy => by
    rw [doU] at h
    split at h
    · rcases doU_mem u ls r h y hy with h | ⟨x, hx, e⟩
      · exact .inl (List.mem_cons_of_mem _ h)
      · exact .inr ⟨x, List.mem_cons_of_mem _ hx, e⟩
    · simp at h
  | .keep t :: u, [], r, h, y, hy => by rw [doU] at h; simp at h
  | .keep t :: u, x :: ls, r, h, y, hy => by
    rw [doU] at h
    split at h
    · obtain ⟨r', h', rfl⟩ := Option.map_eq_some_iff.mp h
      rcases List.mem_cons.mp hy with rfl | hy
      · exact .inl (List.mem_cons_self ..)
      · rcases doU_mem u ls r' h' y hy with h | ⟨x, hx, e⟩
        · exact .inl (List.mem_cons_of_mem _ h)
        · exact .inr ⟨x, List.mem_cons_of_mem _ hx, e⟩
    · simp at h
  | .skip :: u, [], r, h, y, hy => by rw [doU] at h; simp at h
  | .skip :: u, x :: ls, r, h, y, hy => by
    rw [doU] at h
    obtain ⟨r', h', rfl⟩ := Option.map_eq_some_iff.mp h
    rcases List.mem_cons.mp hy with rfl | hy
    · exact .inl (List.mem_cons_self ..)
    · rcases doU_mem u ls r' h' y hy with h | ⟨x, hx, e⟩
      · exact .inl (List.mem_cons_of_mem _ h)
      · exact .inr ⟨x, List.mem_cons_of_mem _ hx, e⟩
theorem insN_app : ∀ (p q : List U), insN (p ++ q) = insN p + insN q
  | [], q => by simp [insN]
  | x :: p, q => by cases x <;> simp only [List.cons_append, insN, insN_app p q] <;> omega
theorem insN_ex : ∀ (l : List Op), insN (ex l) ≤ l.length
  | [] => Nat.le_refl _
  | o :: l => by
    have h : ∀ n, insN (List.replicate n .skip) = 0 := fun n => by
      induction n with
      | zero => rfl
      | succ n ih => rw [List.replicate_succ, insN, ih]
    have : insN (exO o) ≤ 1 := by
      unfold exO
      split
      · rw [h]; omega
      · split
        · simp [insN]
        · split <;> simp [insN]
    have := insN_ex l
    rw [ex_cons, insN_app, List.length_cons]; omega
/-- What came out is no more, and no longer, than what went in. -/
theorem SmT.done {l : List Op} {ls r : List ByteArray} (hl : l.length ≤ 2199023255552) (h : Sm l) (hll : ls.length < 2199023255552) (hls : SmT ls) (hd : doU (ex l) ls = some r) : SmT r := by
  refine ⟨?_, fun y hy => ?_⟩
  · have := doU_len _ _ _ hd
    have := insN_ex l
    omega
  · rcases doU_mem _ _ _ hd y hy with h1 | ⟨x, hx, rfl⟩
    · exact hls.2 y h1
    · have he : ByteArray.empty.size = 0 := rfl
      rcases tx_ex hx with e | ⟨o, ho, e⟩
      · rw [e, he]; omega
      · rw [e]; exact h.2 o ho
/-- Done is done. -/
theorem doL_true {l : List Op} {ls : List ByteArray} (h : (doL l ls).2 = true) : ∃ r, rightL l = true ∧ wholeL ls = true ∧ doU (ex l) ls = some r ∧ wholeL r = true ∧ doL l ls = (r, true) := by
  unfold doL at h ⊢
  split at h
  · rename_i hc
    rw [if_pos hc]
    cases hd : doU (ex l) ls with
    | none => rw [hd] at h; simp [told] at h
    | some r =>
      rw [hd] at h
      simp only [told, List.nil_append] at h ⊢
      by_cases hw : wholeL r = true
      · exact ⟨r, hc.1, hc.2, rfl, hw, by rw [if_pos hw]⟩
      · rw [if_neg hw] at h; simp at h
  · simp at h
theorem doL_of {l : List Op} {ls r : List ByteArray} (h1 : rightL l = true) (h2 : wholeL ls = true) (h3 : doU (ex l) ls = some r) (h4 : wholeL r = true) : doL l ls = (r, true) := by
  unfold doL
  rw [if_pos ⟨h1, h2⟩, h3, told, List.nil_append, if_pos h4]
theorem SmT.of_wt {l : List ByteArray} (h : (l.map fun s => s.size + 1).sum ≤ 2199023255551) : SmT l := by
  have hl := wt_len l
  refine ⟨by omega, fun x hx => ?_⟩
  have : x.size + 1 ≤ (l.map fun s => s.size + 1).sum := by
    clear h hl
    induction l with
    | nil => simp at hx
    | cons y l ih =>
      rw [List.map_cons, List.sum_cons]
      rcases List.mem_cons.mp hx with rfl | hx
      · omega
      · have := ih hx; omega
  omega
end Go.Proofs.Ytfoponahdidddaa.P
