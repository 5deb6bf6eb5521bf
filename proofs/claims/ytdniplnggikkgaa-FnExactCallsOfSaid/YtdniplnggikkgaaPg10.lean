
/- ParamsOf on both sides. No condition. -/
import Derived.Test.YtdniplnggikkgaaPg9
set_option linter.unusedSimpArgs false
set_option linter.unusedVariables false
set_option maxRecDepth 100000
namespace Go.Proofs.Ytdniplnggikkgaa
open Go.RowKit

theorem fs_le {m : ProgM} (hz : szProgN m ≤ 1048576) : m.qFuncs.length ≤ 1048576 := by
  obtain ⟨l⟩ := m
  have h1 : szProgN ⟨l⟩ = szFuncsN l := rfl
  have h2 : szFuncsN l = l.length + szFuncsL l := rfl
  dsimp only; omega
def parR (fs : List FuncM) : List Int := if progS fs then parL fs else []
theorem parR_length {m : ProgM} (hz : szProgN m ≤ 1048576) : (parR m.qFuncs).length ≤ 1048576 := by
  have := fs_le hz
  unfold parR; split
  · rw [parL_length]; exact this
  · simp
set_option maxHeartbeats 1600000 in
theorem spec_call_ParamsOf (cs : List Value) (m : ProgM) (w : World) (hr : RProg w 0 w.heap.size cs m) (hz : szProgN m ≤ 1048576) :
    Calls Try.prog 31 #[.agg cs.toArray] w fun e w' => ∃ v, e = .returned (.tuple #[v, .bool (progS m.qFuncs)]) ∧ w'.ownsRow w.heap.size 3 1 v (parR m.qFuncs).length (icells .i64 (parR m.qFuncs)) ∧ Below w.heap.size w w' := by
  have hr0 := hr
  obtain ⟨v0, rfl, h0⟩ := hr
  obtain ⟨A, c, rfl⟩ := h0.form
  have hb := (Below.refl w.heap.size w).alloc (Nat.le_refl _) (.cells #[.slice A m.qFuncs.length c] 29)
  have hk := Bk.new w 29 #[.slice A m.qFuncs.length c]
  have hG := spec_GoodProg _ m _ (RProg_stable.here hr0 hb) hz
  have hP := fun W (hW : Below w.heap.size w W) => spec_l3Params _ m W (RProg_stable.here hr0 hW) (fs_le hz)
  have hR : progS m.qFuncs = true → parR m.qFuncs = parL m.qFuncs := fun h => by unfold parR; rw [h]; rfl
  have hR' : progS m.qFuncs = false → parR m.qFuncs = [] := fun h => by unfold parR; rw [h]; rfl
  generalize parR m.qFuncs = L at *
  have Hb := hide hb; have Hk := hide hk; have HP := hide hP
  clear hr0 h0 hb hk hP
  cases hg : progS m.qFuncs
  · rw [hg] at hG
    obtain rfl := hR' hg
    have HG := hide hG; clear hG hg hR hR'
    go_enter Try.func31, Try.ntmps31
    go_wp2_with (go_at_call 12; refine (HG.out).mono ?_; rintro e w1 ⟨rfl, hb1⟩)
    go_ret2
    exact ⟨_, rfl, World.ownsRow_nil _ _ _ _, Hb.out.trans (hb1.mono Hb.out.size)⟩
  · rw [hg] at hG
    obtain rfl := hR hg
    have HG := hide hG; clear hG hg hR hR'
    go_enter Try.func31, Try.ntmps31
    go_wp2_with (first
      | (go_at_call 12; refine (HG.out).mono ?_; rintro e w1 ⟨rfl, hb1⟩; have Hb1 := hide (Hb.out.trans (hb1.mono Hb.out.size)); have q0 := (Hk.out.below hb1).cell 0; clear hb1)
      | (go_at_call 43; refine (HP.out _ Hb1.out).mono ?_; rintro e w2 ⟨v, rfl, hown, hb2⟩))
    go_ret2
    exact ⟨_, rfl, own_base hown Hb1.out.size, Hb1.out.trans (hb2.mono Hb1.out.size)⟩
set_option maxHeartbeats 1600000 in
theorem impl_call_ParamsOf (cs : List Value) (m : ProgM) (w : World) (hr : RProg w 0 w.heap.size cs m) (hz : szProgN m ≤ 1048576) :
    Calls Try.prog 32 #[.agg cs.toArray] w fun e w' => ∃ v, e = .returned (.tuple #[v, .bool (progS m.qFuncs)]) ∧ w'.ownsRow w.heap.size 3 1 v (parR m.qFuncs).length (icells .i64 (parR m.qFuncs)) ∧ Below w.heap.size w w' := by
  have hr0 := hr
  obtain ⟨v0, rfl, h0⟩ := hr
  obtain ⟨A, c, rfl⟩ := h0.form
  have hb := (Below.refl w.heap.size w).alloc (Nat.le_refl _) (.cells #[.slice A m.qFuncs.length c] 29)
  have hk := Bk.new w 29 #[.slice A m.qFuncs.length c]
  have hG := impl_isProg _ m _ (RProg_stable.here hr0 hb) hz
  rw [← prog_eq] at hG
  have hP := fun W (hW : Below w.heap.size w W) => impl_paramsOf _ m W (RProg_stable.here hr0 hW) (fs_le hz)
  have hR : progS m.qFuncs = true → parR m.qFuncs = parL m.qFuncs := fun h => by unfold parR; rw [h]; rfl
  have hR' : progS m.qFuncs = false → parR m.qFuncs = [] := fun h => by unfold parR; rw [h]; rfl
  generalize parR m.qFuncs = L at *
  have Hb := hide hb; have Hk := hide hk; have HP := hide hP
  clear hr0 h0 hb hk hP
  cases hg : progS m.qFuncs
  · rw [hg] at hG
    obtain rfl := hR' hg
    have HG := hide hG; clear hG hg hR hR'
    go_enter Try.func32, Try.ntmps32
    go_wp2_with (go_at_call 47; refine (HG.out).mono ?_; rintro e w1 ⟨rfl, hb1⟩)
    go_ret2
    exact ⟨_, rfl, World.ownsRow_nil _ _ _ _, Hb.out.trans (hb1.mono Hb.out.size)⟩
  · rw [hg] at hG
    obtain rfl := hR hg
    have HG := hide hG; clear hG hg hR hR'
    go_enter Try.func32, Try.ntmps32
    go_wp2_with (first
      | (go_at_call 47; refine (HG.out).mono ?_; rintro e w1 ⟨rfl, hb1⟩; have Hb1 := hide (Hb.out.trans (hb1.mono Hb.out.size)); have q0 := (Hk.out.below hb1).cell 0; clear hb1)
      | (go_at_call 66; refine (HP.out _ Hb1.out).mono ?_; rintro e w2 ⟨v, rfl, hown, hb2⟩))
    go_ret2
    exact ⟨_, rfl, own_base hown Hb1.out.size, Hb1.out.trans (hb2.mono Hb1.out.size)⟩
def fn0 : FuncM := ⟨0, 0, [], []⟩
def okF (fs : List FuncM) (fn : Int) : Bool := progS fs && inB fn 0 (fs.length - 1)
theorem okF_g {fs : List FuncM} {fn : Int} (h : progS fs = false) : okF fs fn = false := by unfold okF; rw [h]; rfl
theorem okF_i {fs : List FuncM} {fn : Int} (h : inB fn 0 (fs.length - 1) = false) : okF fs fn = false := by unfold okF; rw [h]; simp
theorem okF_y {fs : List FuncM} {fn : Int} (h1 : progS fs = true) (h : inB fn 0 (fs.length - 1) = true) : okF fs fn = true := by unfold okF; rw [h, h1]; rfl
theorem prog_sh {fs : List FuncM} (h : progS fs = true) {k : Nat} (hk : k < fs.length) : fs[k].qStmts.length ≤ 16 := by
  unfold progS at h
  simp only [Bool.and_eq_true, List.all_eq_true] at h
  exact (funcB_sh (h.2.2.2 _ (List.getElem_mem hk)).1).1
theorem retBB {a b c d : Bool} (h : a = b) (h2 : c = d) : Ending.returned (.tuple #[.bool a, .bool c]) = .returned (.tuple #[.bool b, .bool d]) := by rw [h, h2]
theorem retIB {a b : Int} {c d : Bool} (h : a = b) (h2 : c = d) : Ending.returned (.tuple #[.int .i64 a, .bool c]) = .returned (.tuple #[.int .i64 b, .bool d]) := by rw [h, h2]
theorem fs_len {fs : List FuncM} {fn : Int} (h : inB fn 0 (fs.length - 1) = true) : ∃ n : Nat, fn = (n : Int) ∧ n < fs.length := by
  have := inB_iff.1 h
  exact ⟨fn.toNat, by omega, by omega⟩
end Go.Proofs.Ytdniplnggikkgaa
