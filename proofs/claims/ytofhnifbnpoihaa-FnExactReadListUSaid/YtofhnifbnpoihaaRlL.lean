/- FnExactReadListU: the call returns true. No condition. -/
import Derived.Test.YtofhnifbnpoihaaRl
import Derived.Test.YtofhnifbnpoihaaRlI
import Derived.Test.YtofhnifbnpoihaaSlU2
import Derived.Test.YtofhnifbnpoihaaLebL
set_option linter.unusedSimpArgs false
set_option linter.unusedVariables false
set_option maxRecDepth 100000
namespace Go.Proofs.Ytofhnifbnpoihaa
open Go.RowKit

theorem rdLoop_len (s : ByteArray) : ∀ (k : Nat) (e : Int) (acc : List Int) (x : List Int × Int), rdLoop s k e acc = some x → x.1.length = acc.length + k := by
  intro k
  induction k with
  | zero => intro e acc x h; simp [rdLoop] at h; subst h; simp
  | succ k ih =>
    intro e acc x h
    by_cases g : (rdU s e).2.2.2 = true
    · rw [rdLoop_yes g] at h
      have := ih _ _ _ h
      rw [List.length_append] at this
      simp at this; omega
    · rw [rdLoop_no (by simpa using g)] at h; cases h
theorem rdL_len (s : ByteArray) (a : Int) : (rdL s a).1.length ≤ 200 := by
  by_cases g : (rdU s a).2.2.2 = true ∧ (rdU s a).1 ≤ 200
  · cases h : rdLoop s (rdU s a).1 (rdU s a).2.1 [] with
    | none => rw [rdL_none g.1 g.2 h]; simp
    | some x => rw [rdL_some g.1 g.2 h]; have := rdLoop_len s _ _ _ _ h; simp at this; dsimp only; omega
  · rw [rdL_no g]; simp

theorem own_drewN {w : World} {base n : Nat} {e : TypeId} {size : Nat} {v : Value} {xs : List Value} (h : w.ownsRow base e size v n xs) (q : Nat) : (w.drewN q).ownsRow base e size v n xs := h

set_option maxHeartbeats 1600000 in
theorem law_FnExactReadListU (s : ByteArray) (ws : s.size ≤ maxLen) (a : Int) (wa : (Lit.int .i64 a).wf = true) (w : World) :
    Calls Try.prog 12 #[.string s, .int .i64 a] w fun e w' => e = .returned (.bool true) ∧ Below w.heap.size w w' := by
  obtain ⟨h1, h2⟩ := bd_i64 wa
  have hs : s.size ≤ 9223372036854775807 := by unfold maxLen at ws; omega
  clear ws
  by_cases hb : s.size ≤ 1048576
  · have hL := rdL_len s a
    have hc := fun w => spec_ReadListU s a hs h1 h2 w
    have hc2 := fun w => impl_ReadListU s a hs h1 h2 w
    generalize rdL s a = r at *
    obtain ⟨zs, e0, ok⟩ := r
    dsimp only at *
    have Hc := Lib.hid hc; have Hc2 := Lib.hid hc2; clear hc hc2
    go_enter Try.func12, Try.ntmps12
    go_wp2_with fail
    refine (Hc.out _).mono ?_
    rintro e w1 ⟨v1, rfl, hown1, hb1⟩
    have Ho1 := hide hown1; have Hb1 := hide hb1; clear hown1 hb1
    go_wp2_with fail
    refine (Hc2.out _).mono ?_
    rintro e w2 ⟨v2, rfl, hown2, hb2⟩
    have Ho2 := hide hown2; have Hr1 := hide ((Rd.of_own Ho1.out).below hb2); have Hb2 := hide (Hb1.out.trans (hb2.mono Hb1.out.size)); have Hl1 := hide hb2; clear hown2 hb2
    go_wp2_with fail
    refine (eqUint64S _ _ zs _ _ _ (Rd.of_own Ho2.out) Hr1.out (by omega)).mono ?_
    rintro e w3 ⟨rfl, q, rfl⟩
    go_wp2_with fail
    refine (markUint64S _ zs 1 _ _ (own_drewN Ho2.out q) (by omega) (by omega)).mono ?_
    rintro e w4 ⟨rfl, hown4, hg4⟩
    have hlt := Ho2.out.lt
    have hbb : Below _ w2 w4 := (below_drewN (Below.refl _ _) q).grown hg4 (by have := Hl1.out.size; simpa using this) (fun k hk => (hlt k hk).1)
    have Ho4 := hide hown4
    have Hr4 := hide (Hr1.out.below hbb)
    have Hb4 := hide (Hb2.out.trans (hbb.mono Hb1.out.size))
    have hS4 := hbb.size
    clear hown4 hg4 hlt hbb
    go_wp2_with fail
    refine (heldUint64S _ zs.length 1 _ _ (Rd.of_own Ho4.out) (by omega) (by omega)).mono ?_
    rintro e w5 ⟨rfl, rfl⟩
    go_wp2_with fail
    refine (Hc2.out _).mono ?_
    rintro e w6 ⟨v3, rfl, hown6, hb6⟩
    have Ho6 := hide hown6
    have Hr6 := hide (Hr4.out.below' hb6 (by have := Hl1.out.size; omega))
    have Hq6 := hide ((Rd.of_own Ho4.out).below hb6)
    have Hb6 := hide (Hb4.out.trans (hb6.mono Hb4.out.size))
    clear hown6 hb6
    go_wp2_with fail
    refine (eqUint64S _ _ zs _ _ _ (Rd.of_own Ho6.out) Hr6.out (by omega)).mono ?_
    rintro e w7 ⟨rfl, q2, rfl⟩
    go_wp2_with fail
    refine (heldUint64S _ zs.length 1 _ _ (Hq6.out.drewN q2) (by omega) (by omega)).mono ?_
    rintro e w8 ⟨rfl, rfl⟩
    go_wp2_with fail
    go_ret
    exact ⟨rfl, below_drewN Hb6.out q2⟩
  · go_enter Try.func12, Try.ntmps12
    go_wp2
    go_ret
    exact ⟨rfl, Below.refl _ _⟩
end Go.Proofs.Ytofhnifbnpoihaa
