/- Own: small words for the printed functions: a row that is gone through from its front. -/
import Derived.Test.YtfoponahdidddaaD
import Derived.WideShapes
import Derived.Lib.Strings
namespace Go.Proofs.Ytfoponahdidddaa.P
open Go.RowKit Go.Proofs.YtfoponahdidddaaW.PrintWords Go.Proofs.YtfoponahdidddaaW.PrintLast Go.Proofs.YtfoponahdidddaaW.PrintMore

theorem txt_eq {s t : ByteArray} (h : s.toList = t.toList) : s = t := by
  rw [Lib.toList_data, Lib.toList_data] at h
  exact WideShapes.bytes_inj h
theorem txt_iff {s t : ByteArray} : s.toList = t.toList ↔ s = t := ⟨txt_eq, fun h => by rw [h]⟩
section
variable {α : Type}
theorem lt_mid (p s : List α) (x : α) : ((p.length : Int) < ((p ++ x :: s).length : Int)) = True := by simp; omega
theorem lt_end (p : List α) : ((p.length : Int) < ((p ++ ([] : List α)).length : Int)) = False := by simp
theorem nn_nat (n : Nat) : ((0 : Int) ≤ (n : Int)) = True := by simp
theorem app_mid (p s : List α) (x : α) : p ++ x :: s = (p ++ [x]) ++ s := by simp
theorem getD_mid (p s : List α) (x d : α) : (p ++ x :: s).getD (p.length : Int).toNat d = x := by
  rw [Int.toNat_natCast, List.getD_eq_getElem?_getD, List.getElem?_append_right (Nat.le_refl _)]; simp
theorem wrap_len (p : List α) (x : α) (h : p.length < 4611686018427387904) : wrap64 ((p.length : Int) + 1) = ((p ++ [x]).length : Int) := by
  unfold wrap64; simp; omega
theorem len_snoc (p : List α) (x : α) : (p ++ [x]).length = p.length + 1 := by simp
end
theorem wrap_small {n : Int} (h0 : -9223372036854775808 ≤ n) (h1 : n < 9223372036854775808) : wrap64 n = n := by unfold wrap64; omega
theorem rdOf_mid {α : Type} (d : α) (p s : List α) (x : α) : rdOf d (p ++ x :: s) (p.length : Int) = x := getD_mid p s x d
theorem rd_mid (p s : List Int) (x : Int) : rd (p ++ x :: s) (p.length : Int) = x := getD_mid p s x 0
theorem rdOp_mid (p s : List Op) (x : Op) : rd_Op (p ++ x :: s) (p.length : Int) = x := getD_mid p s x zOp
theorem rdOf_get {α : Type} {d : α} {l : List α} {i : Nat} (h : i < l.length) : rdOf d l (i : Int) = l[i] := by
  unfold rdOf; rw [Int.toNat_natCast, List.getD_eq_getElem?_getD, List.getElem?_eq_getElem h]; rfl
theorem rdOp_get {l : List Op} {i : Nat} (h : i < l.length) : rd_Op l (i : Int) = l[i] := by
  unfold rd_Op; rw [Int.toNat_natCast, List.getD_eq_getElem?_getD, List.getElem?_eq_getElem h]; rfl
theorem rd_get {l : List Int} {i : Nat} (h : i < l.length) : rd l (i : Int) = l[i] := by
  unfold rd; rw [Int.toNat_natCast, List.getD_eq_getElem?_getD, List.getElem?_eq_getElem h]; rfl
theorem Op.ext' {a b : Op} (h0 : a.f0 = b.f0) (h1 : a.f1 = b.f1) (h2 : a.f2 = b.f2) : a = b := by cases a; cases b; simp_all
instance : DecidableEq Op := fun a b => decidable_of_iff (a.f0 = b.f0 ∧ a.f1 = b.f1 ∧ a.f2 = b.f2) ⟨fun h => Op.ext' h.1 h.2.1 h.2.2, fun h => by rw [h]; exact ⟨rfl, rfl, rfl⟩⟩

/-- Two that are answered, each at rounds of its own. -/
theorem Ev.bind' {α β : Type} {g : Nat → Option α} {f : Nat → α → Option β} {a : α} {r : β} (h : Ev g a) (k : Ev (fun n => f n a) r) : Ev (fun n => (g n).bind fun t => f n t) r := Ev.bind h k
theorem Ev.bindN {α β : Type} {g : Option α} {f : Nat → α → Option β} {a : α} {r : β} (h : g = some a) (k : Ev (fun n => f n a) r) : Ev (fun n => g.bind fun t => f n t) r := by
  subst h; exact k
end Go.Proofs.Ytfoponahdidddaa.P
