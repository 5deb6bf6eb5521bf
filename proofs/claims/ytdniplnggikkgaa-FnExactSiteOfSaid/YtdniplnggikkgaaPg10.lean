
/- ParamsOf on both sides. No condition. -/
import Derived.Test.YtdniplnggikkgaaPg9
set_option linter.unusedSimpArgs false
set_option linter.unusedVariables false
set_option maxRecDepth 100000
namespace Go.Proofs.Ytdniplnggikkgaa
open Go.RowKit

theorem fs_le {m : ProgM} (hz : szProgN m ≤ 1048576) : m.qFuncs.length ≤ 1048576 := by
  obtain ⟨l⟩ := m
  have h1 : szProgN ⟨l⟩ = szFuncsN l := rfl
  have h2 : szFuncsN l = l.length + szFuncsL l := rfl
  dsimp only; omega
def parR (fs : List FuncM) : List Int := if progS fs then parL fs else []
theorem parR_length {m : ProgM} (hz : szProgN m ≤ 1048576) : (parR m.qFuncs).length ≤ 1048576 := by
  have := fs_le hz
  unfold parR; split
  · rw [parL_length]; exact this
  · simp
set_option maxHeartbeats 1600000 in
theorem spec_call_ParamsOf (cs : List Value) (m : ProgM) (w : World) (hr : RProg w 0 w.heap.size cs m) (hz : szProgN m ≤ 1048576) :
    Calls Try.prog 31 #[.agg cs.toArray] w fun e w' => ∃ v, e = .returned (.tuple #[v, .bool (progS m.qFuncs)]) ∧ w'.ownsRow w.heap.size 3 1 v (parR m.qFuncs).length (icells .i64 (parR m.qFuncs)) ∧ Below w.heap.size w w' := by
  have hr0 := hr
  obtain ⟨v0, rfl, h0⟩ := hr
  obtain ⟨A, c, rfl⟩ := h0.form
  have hb := (Below.refl w.heap.size w).alloc (Nat.le_refl _) (.cells #[.slice A m.qFuncs.length c] 29)
  have hk := Bk.new w 29 #[.slice A m.qFuncs.length c]
  have hG := spec_GoodProg _ m _ (RProg_stable.here hr0 hb) hz
  have hP := fun W (hW : Below w.heap.size w W) => spec_l3Params _ m W (RProg_stable.here hr0 hW) (fs_le hz)
  have hR : progS m.qFuncs = true → parR m.qFuncs = parL m.qFuncs := fun h => by unfold parR; rw [h]; rfl
  have hR' : progS m.qFuncs = false → parR m.qFuncs = [] := fun h => by unfold parR; rw [h]; rfl
  generalize parR m.qFuncs = L at *
  have Hb := hide hb; have Hk := hide hk; have HP := hide hP
  clear hr0 h0 hb hk hP
  cases hg : progS m.qFuncs
  · rw [hg] at hG
    obtain rfl := hR' hg
    have HG := hide hG; clear hG hg hR hR'
    go_enter Try.func31, Try.ntmps31
    go_wp2_with (go_at_call 12; refine (HG.out).mono ?_; rintro e w1 ⟨rfl, hb1⟩)
    go_ret2
    exact ⟨_, rfl, World.ownsRow_nil _ _ _ _, Hb.out.trans (hb1.mono Hb.out.size)⟩
  · rw [hg] at hG
    obtain rfl := hR hg
    have HG := hide hG; clear hG hg hR hR'
    go_enter Try.func31, Try.ntmps31
    go_wp2_with (first
      | (go_at_call 12; refine (HG.out).mono ?_; rintro e w1 ⟨rfl, hb1⟩; have Hb1 := hide (Hb.out.trans (hb1.mono Hb.out.size)); have q0 := (Hk.out.below hb1).cell 0; clear hb1)
      | (go_at_call 43; refine (HP.out _ Hb1.out).mono ?_; rintro e w2 ⟨v, rfl, hown, hb2⟩))
    go_ret2
    exact ⟨_, rfl, own_base hown Hb1.out.size, Hb1.out.trans (hb2.mono Hb1.out.size)⟩
set_option maxHeartbeats 1600000 in
theorem impl_call_ParamsOf (cs : List Value) (m : ProgM) (w : World) (hr : RProg w 0 w.heap.size cs m) (hz : szProgN m ≤ 1048576) :
    Calls Try.prog 32 #[.agg cs.toArray] w fun e w' => ∃ v, e = .returned (.tuple #[v, .bool (progS m.qFuncs)]) ∧ w'.ownsRow w.heap.size 3 1 v (parR m.qFuncs).length (icells .i64 (parR m.qFuncs)) ∧ Below w.heap.size w w' := by
  have hr0 := hr
  obtain ⟨v0, rfl, h0⟩ := hr
  obtain ⟨A, c, rfl⟩ := h0.form
  have hb := (Below.refl w.heap.size w).alloc (Nat.le_refl _) (.cells #[.slice A m.qFuncs.length c] 29)
  have hk := Bk.new w 29 #[.slice A m.qFuncs.length c]
  have hG := impl_isProg _ m _ (RProg_stable.here hr0 hb) hz
  rw [← prog_eq] at hG
  have hP := fun W (hW : Below w.heap.size w W) => impl_paramsOf _ m W (RProg_stable.here hr0 hW) (fs_le hz)
  have hR : progS m.qFuncs = true → parR m.qFuncs = parL m.qFuncs := fun h => by unfold parR; rw [h]; rfl
  have hR' : progS m.qFuncs = false → parR m.qFuncs = [] := fun h => by unfold parR; rw [h]; rfl
  generalize parR m.qFuncs = L at *
  have Hb := hide hb; have Hk := hide hk; have HP := hide hP
  clear hr0 h0 hb hk hP
  cases hg : progS m.qFuncs
  · rw [hg] at hG
    obtain rfl := hR' hg
    have HG := hide hG; clear hG hg hR hR'
    go_enter Try.func32, Try.ntmps32
    go_wp2_with (go_at_call 47; refine (HG.out).mono ?_; rintro e w1 ⟨rfl, hb1⟩)
    go_ret2
    exact ⟨_, rfl, World.ownsRow_nil _ _ _ _, Hb.out.trans (hb1.mono Hb.out.size)⟩
  · rw [hg] at hG
    obtain rfl := hR hg
    have HG := hide hG; clear hG hg hR hR'
    go_enter Try.func32, Try.ntmps32
    go_wp2_with (first
      | (go_at_call 47; refine (HG.out).mono ?_; rintro e w1 ⟨rfl, hb1⟩; have Hb1 := hide (Hb.out.trans (hb1.mono Hb.out.size)); have q0 := (Hk.out.below hb1).cell 0; clear hb1)
      | (go_at_call 66; refine (HP.out _ Hb1.out).mono ?_; rintro e w2 ⟨v, rfl, hown, hb2⟩))
    go_ret2
    exact ⟨_, rfl, own_base hown Hb1.out.size, Hb1.out.trans (hb2.mono Hb1.out.size)⟩
end Go.Proofs.Ytdniplnggikkgaa
