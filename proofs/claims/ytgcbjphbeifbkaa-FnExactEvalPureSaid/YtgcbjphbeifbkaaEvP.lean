
/- What an expression comes to: plain Lean. No condition. -/
import Derived.Test.YtgcbjphbeifbkaaExP
import Derived.Test.YtgcbjphbeifbkaaRk
import Derived.IntWalk
set_option linter.unusedSimpArgs false
set_option linter.unusedVariables false
namespace Go.Proofs.Ytgcbjphbeifbkaa
open Go.RowKit

theorem rk_small (op x y : Int) : -2147483648 ≤ (rk op x y).1 ∧ (rk op x y).1 ≤ 2147483647 := by
  have h : ∀ z : Int, -2147483648 ≤ wrap32 z ∧ wrap32 z ≤ 2147483647 := fun z => by unfold wrap32; omega
  unfold rk
  repeat' split
  all_goals first | exact h _ | (dsimp only; omega)
def evL (env : List Int) : List P2 → List Int → Option (List Int)
  | [], p => some p
  | t :: l, p => if t.o = 1 then evL env l (p ++ [t.n]) else if t.o = 2 then evL env l (p ++ [env.getD t.n.toNat 0]) else
    if (rk t.o (p.getD (p.length - 2) 0) (p.getD (p.length - 1) 0)).2 = true then evL env l (p.take (p.length - 2) ++ [(rk t.o (p.getD (p.length - 2) 0) (p.getD (p.length - 1) 0)).1]) else none
theorem evL_num {env : List Int} {e : List P2} {k : Nat} {p : List Int} (hk : k < e.length) (h : e[k].o = 1) : evL env (e.drop k) p = evL env (e.drop (k + 1)) (p ++ [e[k].n]) := by
  rw [List.drop_eq_getElem_cons hk]; simp only [evL]; rw [if_pos h]
theorem evL_var {env : List Int} {e : List P2} {k : Nat} {p : List Int} (hk : k < e.length) (h : e[k].o = 2) {j : Nat} (hn : e[k].n = j) (hj : j < env.length) : evL env (e.drop k) p = evL env (e.drop (k + 1)) (p ++ [env[j]]) := by
  rw [List.drop_eq_getElem_cons hk]; simp only [evL]; rw [if_neg (by omega), if_pos h, hn]; simp [List.getD, List.getElem?_eq_getElem hj]
theorem evL_yes {env : List Int} {e : List P2} {k : Nat} {p q : List Int} {x y r : Int} (hk : k < e.length) (h1 : e[k].o ≠ 1) (h2 : e[k].o ≠ 2) (hp : p = q ++ [x, y]) (hr : rk e[k].o x y = (r, true)) : evL env (e.drop k) p = evL env (e.drop (k + 1)) (q ++ [r]) := by
  subst hp
  have e1 : (q ++ [x, y]).length - 2 = q.length := by simp
  have e2 : (q ++ [x, y]).length - 1 = q.length + 1 := by simp
  have g1 : (q ++ [x, y]).getD q.length 0 = x := by simp [List.getD]
  have g2 : (q ++ [x, y]).getD (q.length + 1) 0 = y := by simp [List.getD, List.getElem?_append_right]
  rw [List.drop_eq_getElem_cons hk]; simp only [evL]; rw [if_neg h1, if_neg h2, e1, e2, g1, g2, hr, if_pos rfl]
  simp
theorem evL_no {env : List Int} {e : List P2} {k : Nat} {p q : List Int} {x y r : Int} (hk : k < e.length) (h1 : e[k].o ≠ 1) (h2 : e[k].o ≠ 2) (hp : p = q ++ [x, y]) (hr : rk e[k].o x y = (r, false)) : evL env (e.drop k) p = none := by
  subst hp
  have e1 : (q ++ [x, y]).length - 2 = q.length := by simp
  have e2 : (q ++ [x, y]).length - 1 = q.length + 1 := by simp
  have g1 : (q ++ [x, y]).getD q.length 0 = x := by simp [List.getD]
  have g2 : (q ++ [x, y]).getD (q.length + 1) 0 = y := by simp [List.getD, List.getElem?_append_right]
  rw [List.drop_eq_getElem_cons hk]; simp only [evL]; rw [if_neg h1, if_neg h2, e1, e2, g1, g2, hr, if_neg (by simp)]
theorem two_last {p : List Int} (h : 2 ≤ p.length) : ∃ q x y, p = q ++ [x, y] ∧ q.length = p.length - 2 := by
  have h2 : (p.drop (p.length - 2)).length = 2 := by rw [List.length_drop]; omega
  have h3 : p.take (p.length - 2) ++ p.drop (p.length - 2) = p := List.take_append_drop _ _
  rcases hd : p.drop (p.length - 2) with _ | ⟨x, _ | ⟨y, _ | ⟨z, l⟩⟩⟩
  · rw [hd] at h2; simp at h2
  · rw [hd] at h2; simp at h2
  · rw [hd] at h3
    exact ⟨_, x, y, h3.symm, by rw [List.length_take]; omega⟩
  · rw [hd] at h2; simp at h2
/-- a value and whether there is one -/
def evR (env : List Int) (e : List P2) : Int × Bool := match evL env e [] with | some p => (p.getD 0 0, true) | none => (0, false)
theorem evR_some {env : List Int} {e : List P2} {p : List Int} {x : Int} (h : evL env e [] = some p) (hx : p = [x]) : evR env e = (x, true) := by
  unfold evR; rw [h, hx]; rfl
theorem evR_none {env : List Int} {e : List P2} (h : evL env e [] = none) : evR env e = (0, false) := by
  unfold evR; rw [h]
def opsOk (e : List P2) : Bool := e.all fun t => decide (t.o ≤ 8)
def evOk (env : List Int) (e : List P2) : Bool := decide (env.length ≤ 6) && ((env.all fun n => smallB n) && (decide (0 < highOf env.length [] e) && opsOk e))
def evF (env : List Int) (e : List P2) : Int × Bool × Bool := if evOk env e = true then ((evR env e).1, (evR env e).2, true) else (0, false, false)
theorem evF_no {env : List Int} {e : List P2} (h : evOk env e = false) : evF env e = (0, false, false) := by unfold evF; rw [h]; rfl
theorem evF_yes {env : List Int} {e : List P2} {x : Int} {b : Bool} (h : evOk env e = true) (h2 : evR env e = (x, b)) : evF env e = (x, b, true) := by unfold evF; rw [h, h2]; rfl
theorem high_run {vars : Int} {params : List Int} {e : List P2} (h : 0 < highOf vars params e) : ∃ m, runE vars params e 0 0 = some (1, m) ∧ e.length ≤ 12 := by
  by_cases h2 : 1 ≤ e.length ∧ e.length ≤ 12
  · cases hr : runE vars params e 0 0 with
    | none => rw [highOf_none hr] at h; omega
    | some x =>
      obtain ⟨c, m⟩ := x
      by_cases hc : c = 1
      · subst hc; exact ⟨m, rfl, h2.2⟩
      · rw [highOf_bad hr (.inl hc)] at h; omega
  · rw [highOf_size h2] at h; omega
theorem run_step {vars : Int} {params : List Int} {e : List P2} {k : Nat} {x y : Int} {z : Int × Int} (hk : k < e.length) (h : runE vars params (e.drop k) x y = some z) :
    tokOk vars params.length e[k] = true ∧ need params e[k] ≤ x ∧ ∃ y', runE vars params (e.drop (k + 1)) (x + 1 - need params e[k]) y' = some z := by
  by_cases g : tokOk vars params.length e[k] = true ∧ need params e[k] ≤ x
  · rw [runE_yes hk g.1 g.2] at h
    exact ⟨g.1, g.2, _, h⟩
  · rw [runE_no hk g] at h; cases h
end Go.Proofs.Ytgcbjphbeifbkaa
