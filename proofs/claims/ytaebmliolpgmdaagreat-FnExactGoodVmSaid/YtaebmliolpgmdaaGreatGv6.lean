
/- What isVm's loops hold. No condition. -/
import Derived.Test.YtaebmliolpgmdaaGreatGv2
import Derived.Test.YtaebmliolpgmdaaGreatGv5
import Derived.Deep.QuietTactic
import Derived.BigQuiet
import Derived.Deep.CutRange
set_option linter.unusedSimpArgs false
set_option linter.unusedVariables false
set_option maxRecDepth 100000
namespace Go.Proofs.YtaebmliolpgmdaaGreat
open Go.RowKit Go.Shelf

theorem okII : SliceOk Tryz.prog 110 26 (.slice none 0 0) 1 24 := .mk Tryz.underlying110 (by kernel_rfl) rfl (by decide)
theorem own_ge {w : World} {base n : Nat} {e : TypeId} {size : Nat} {v : Value} {xs : List Value} (h : w.ownsRow base e size v n xs) : ∀ k, v.ownBlock = some k → base ≤ k ∧ k < w.heap.size := by
  intro k hk
  rcases h.2 with ⟨rfl, _⟩ | ⟨g, cap, cur, rfl, hg, hh, _⟩
  · simp [Value.ownBlock] at hk
  · simp [Value.ownBlock] at hk
    subst hk
    exact ⟨hg, (Array.getElem?_eq_some_iff.1 hh).1⟩
theorem own_setq {w : World} {base n : Nat} {e : TypeId} {size : Nat} {v : Value} {xs : List Value} (h : w.ownsRow base e size v n xs) {q : Nat} (i : Nat) (u : Value) (hp : ∀ k, v.ownBlock = some k → k ≠ q) : (w.setCell ⟨q, i, none⟩ u).ownsRow base e size v n xs := own_far h u hp
/-- a slice of slices of which the first k are known -/
def HtsAt (l : List CodeM) (H k : Nat) (W : World) : Prop :=
  ∃ arr : Array Value, Bk W H 26 arr ∧ arr.size = l.length ∧ ∀ j (h : j < l.length), j < k → ∃ v, arr[j]? = some v ∧ W.ownsRow (H + 1) 3 1 v (htsOf l l[j]).length (icells .i64 (htsOf l l[j]))
section
variable {l : List CodeM} {H k : Nat} {W W1 : World}
theorem HtsAt.below (h : HtsAt l H k W) (hb : Below W.heap.size W W1) : HtsAt l H k W1 := by
  obtain ⟨arr, h1, h2, h3⟩ := h
  refine ⟨arr, h1.below hb, h2, fun j hj hjk => ?_⟩
  obtain ⟨v, e, ho⟩ := h3 j hj hjk
  exact ⟨v, e, own_keep ho hb⟩
theorem HtsAt.lt (h : HtsAt l H k W) : H < W.heap.size := by obtain ⟨arr, h1, _⟩ := h; exact h1.lt
theorem HtsAt.cell (h : HtsAt l H k W) {j : Nat} (hj : j < l.length) : (∃ u, W.cell? ⟨H, j, none⟩ = some u) ∧ W.frozen? ⟨H, j, none⟩ = false := by
  obtain ⟨arr, h1, h2, _⟩ := h
  exact ⟨⟨arr[j]'(by omega), (h1.cell j).trans (Array.getElem?_eq_getElem (by omega))⟩, h1.frozen j⟩
theorem HtsAt.set (h : HtsAt l H k W) (hk : k < l.length) {v : Value} (ho : W.ownsRow (H + 1) 3 1 v (htsOf l l[k]).length (icells .i64 (htsOf l l[k]))) : HtsAt l H (k + 1) (W.setCell ⟨H, k, none⟩ v) := by
  obtain ⟨arr, h1, h2, h3⟩ := h
  refine ⟨arr.setIfInBounds k v, h1.set k v, by simpa using h2, fun j hj hjk => ?_⟩
  by_cases e : j = k
  · subst e
    exact ⟨v, by simp [Array.getElem?_setIfInBounds, h2, hj], own_setq ho _ _ (fun q hq => by have := own_ge ho q hq; omega)⟩
  · obtain ⟨u, eu, ou⟩ := h3 j hj (by omega)
    exact ⟨u, by rw [Array.getElem?_setIfInBounds, if_neg (by omega)]; exact eu, own_setq ou _ _ (fun q hq => by have := own_ge ou q hq; omega)⟩
theorem HtsAt.get (h : HtsAt l H l.length W) {n p : Nat} (hn : n < l.length) (hp : p < (htsOf l l[n]).length) :
    ∃ bh oh Ch, W.cell? ⟨H, n, none⟩ = some (.slice (some ⟨bh, oh, none⟩) (htsOf l l[n]).length Ch) ∧ bh < W.heap.size ∧ W.cell? ⟨bh, oh + p, none⟩ = some (.int .i64 (lab (htsOf l l[n]) p)) := by
  obtain ⟨arr, h1, h2, h3⟩ := h
  obtain ⟨v, e, ho⟩ := h3 n hn hn
  obtain ⟨bh, oh, Ch, rfl, hb, hc⟩ := hts_cell ho rfl hp
  exact ⟨bh, oh, Ch, (h1.cell n).trans e, hb, hc⟩
end
theorem HtsAt.made {w : World} {l : List CodeM} {H : Nat} (h : w.ownsRow H 26 1 (.slice (some ⟨H, 0, none⟩) l.length l.length) l.length (madeCells (Value.slice none 0 0).cells (l.length * 1)).toList) : HtsAt l H 0 w := by
  refine ⟨_, (bk_of_own h).1, ?_, fun j hj hj0 => absurd hj0 (by omega)⟩
  have e : (Value.slice none 0 0).cells = #[Value.slice none 0 0] := rfl
  rw [Nat.mul_one, e, toList_madeCells_one]
  simp
structure HoV (w : World) (l : List CodeM) (g H : Nat) (ca cv cf : Array Value) (W : World) : Prop where
  b : Below w.heap.size w W
  i : Bk W w.heap.size 31 ca
  v : Bk W (w.heap.size + 1) 47 cv
  f : Bk W g 102 cf
  h : HtsAt l H l.length W
section
variable {w : World} {l : List CodeM} {g H : Nat} {ca cv cf : Array Value} {W W1 : World}
theorem HoV.below (h : HoV w l g H ca cv cf W) (hb : Below W.heap.size W W1) : HoV w l g H ca cv cf W1 := ⟨h.b.trans (hb.mono h.b.size), h.i.below hb, h.v.below hb, h.f.below hb, h.h.below hb⟩
theorem HoV.alloc (h : HoV w l g H ca cv cf W) (o : Obj) : HoV w l g H ca cv cf (W.alloc o) := h.below ((Below.refl _ _).alloc (Nat.le_refl _) o)
theorem HoV.drew (h : HoV w l g H ca cv cf W) : HoV w l g H ca cv cf W.drew := h.below (Below.refl _ _).drew
theorem HoV.drewN (h : HoV w l g H ca cv cf W) (q : Nat) : HoV w l g H ca cv cf (W.drewN q) := h.below (below_drewN (Below.refl _ _) q)
end
/-- the frames from k on are as said, in the program's order -/
noncomputable def stackV (l : List CodeM) (fs : List FrameM) (k : Nat) : Bool := if k = 0 then !offH fs && stackB l (fs.drop 0) else stackB l (fs.drop k)
theorem stackV_step {l : List CodeM} {fs : List FrameM} {k : Nat} (h : k < fs.length) : stackV l fs k = ((frB l fs[k] && !(fs[k].qOff && decide (k = 0))) && (stepB l fs[k] fs[k + 1]? && stackV l fs (k + 1))) := by
  unfold stackV
  rw [if_neg (Nat.succ_ne_zero k)]
  by_cases e : k = 0
  · subst e
    rw [if_pos rfl, stack_step h, offH_at h]
    unfold frOk
    simp only [decide_true, Bool.and_true]
    cases fs[0].qOff <;> cases frB l fs[0] <;> simp
  · rw [if_neg e, stack_step h]
    unfold frOk
    simp only [e, decide_false, Bool.and_false, Bool.not_false, Bool.and_true, Bool.and_assoc]
theorem stackV_end {l : List CodeM} {fs : List FrameM} : stackV l fs fs.length = true := by
  unfold stackV
  split
  · rename_i h
    have : fs = [] := List.eq_nil_of_length_eq_zero h
    subst this; rfl
  · exact stack_end
theorem vmB_alt2 (l : List CodeM) (v : VmM) : ∃ bd : Bool, (¬ vmQ v → bd = true) ∧ (vmQ v → bd = false) ∧ (¬ vmP v → vmB l v = false) ∧ (bd = true → vmB l v = false) ∧ (vmP v → bd = false → vmB l v = stackV l v.qFrames 0) := by
  refine ⟨@decide (¬ vmQ v) (Classical.propDecidable _), fun h => @decide_eq_true _ (Classical.propDecidable _) h, fun h => @decide_eq_false _ (Classical.propDecidable _) (fun q => q h), fun h => vmB_no (fun q => h q.1), fun h => vmB_no (fun q => (@of_decide_eq_true _ (Classical.propDecidable _) h) q.2), fun h g => ?_⟩
  have h2 := @of_decide_eq_false _ (Classical.propDecidable _) g
  have h3 : vmQ v := Classical.byContradiction h2
  unfold vmB stackV
  rw [@decide_eq_true _ (Classical.propDecidable _) ⟨h, h3⟩, if_pos rfl]; rfl
theorem params_bd {l : List CodeM} (hs : sizedB l = true) {m : Nat} (hm : m < l.length) : 0 ≤ l[m].qParams ∧ l[m].qParams ≤ 2 := (codeOk_iff.1 ((sizedB_iff.1 hs).2 _ (List.getElem_mem hm))).1
theorem pile_long {w : World} {hi c i : Nat} {A : Option Addr} {l : List FrameM} (h : RL RFrame 11 w 0 hi (.slice A l.length c) l) (hl : i < l.length) : l[i].qPile.length ≤ 9223372036854775807 := by
  obtain ⟨b, o, P3, d3, P4, d4, P5, d5, hA, hb, hc, hx⟩ := RFrame_lit h hl
  obtain ⟨_, _, _, ey, x3, x4, x5⟩ := hx
  exact x3.long
end Go.Proofs.YtaebmliolpgmdaaGreat
