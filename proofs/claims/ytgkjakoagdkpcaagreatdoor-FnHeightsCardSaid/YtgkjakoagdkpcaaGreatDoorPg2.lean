
/- isShaped: what the Go text returns. No condition. -/
import Derived.Test.YtgkjakoagdkpcaaGreatDoorPg1
set_option linter.unusedSimpArgs false
set_option linter.unusedVariables false
set_option maxRecDepth 100000
namespace Go.Proofs.YtgkjakoagdkpcaaGreatDoor
open Go.RowKit

/-- ContainsFunc over numbers that are read, with what the closure captured -/
theorem anyIntC (v : Value) (l : List Int) (p : Int → Bool) (g : Nat) (lb : Array Value) (eg : ∀ args w, (callFunc g args).run Tryz.prog w = .ok (.enter g args) w) (w : World) (hr : Rd w w.heap.size v l.length (icells .i64 l))
    (hp : ∀ n W, Below w.heap.size w W → Calls Tryz.prog g (#[.int .i64 n] ++ lb) W fun e w' => e = .returned (.bool (p n)) ∧ Below W.heap.size W w') :
    Calls Tryz.prog 49 #[v, .func (.func g) #[] lb] w fun e w' => e = .returned (.bool (l.any p)) ∧ Below w.heap.size w w' := by
  have hl := hr.long
  obtain ⟨A, c, rfl, hn, hc, hcell⟩ := id hr
  rw [← anyq_list (q := fun j => p (l.getD j 0)) (p := p) (l := l) (fun j hj => by simp [List.getD, List.getElem?_eq_getElem hj])]
  refine cfI A l.length c (fun j => .int .i64 (l.getD j 0)) _ g lb eg w hl (fun j hj => ?_) (fun j hj W hW => hp _ W hW)
  obtain ⟨b, o, hA, hbB, hs⟩ := hr.at_ (j := j) (by rw [icells_length]; exact hj)
  rw [icells_get _ _ hj] at hs
  exact ⟨b, o, hA, hbB, by rw [hs]; simp [List.getD, List.getElem?_eq_getElem hj]⟩
theorem any_notIn {l : List Int} {lo hi : Int} : (l.any fun n => !inB n lo hi) = !inAll l lo hi := by
  unfold inAll; rw [List.all_eq_not_any_not]; simp

theorem intL_range_get {n k : Nat} {a : List Int} (h : a = intL (List.range n)) (hk : k < a.length) : a[k] = (k : Int) := by
  subst h; simp [intL]
theorem intL_range_of {n : Nat} {a : List Int} (h : a.length = n) (h2 : ∀ j (hj : j < a.length), a[j] = (j : Int)) : a = intL (List.range n) := by
  apply List.ext_getElem
  · rw [h, intL_length, List.length_range]
  · intro i h1 h3; rw [h2 i h1]; simp [intL]
theorem all_take_step {α : Type} {p : α → Bool} {l : List α} {k : Nat} (hk : k < l.length) (h1 : (l.take k).all p = true) (h2 : p l[k] = true) : (l.take (k + 1)).all p = true := by
  rw [List.take_succ_eq_append_getElem hk, List.all_append, h1]; simp [h2]
theorem all_false {α : Type} {p : α → Bool} {l : List α} {k : Nat} (hk : k < l.length) (h2 : p l[k] = false) : l.all p = false := by
  rw [Bool.eq_false_iff]; intro h; rw [List.all_eq_true] at h; have := h _ (List.getElem_mem hk); rw [h2] at this; cases this

end Go.Proofs.YtgkjakoagdkpcaaGreatDoor
