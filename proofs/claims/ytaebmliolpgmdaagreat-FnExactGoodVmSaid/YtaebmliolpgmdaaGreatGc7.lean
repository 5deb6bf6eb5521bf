
/- GoodCode on both sides. No condition. -/
import Derived.Test.YtaebmliolpgmdaaGreatGc5
import Derived.Test.YtaebmliolpgmdaaGreatGc6
set_option linter.unusedSimpArgs false
set_option linter.unusedVariables false
set_option maxRecDepth 100000
namespace Go.Proofs.YtaebmliolpgmdaaGreat
open Go.RowKit

theorem retIB2 {a b : Int} {c d : Bool} (h : a = b) (h2 : c = d) : Ending.returned (.tuple #[.int .i64 a, .bool c]) = .returned (.tuple #[.int .i64 b, .bool d]) := by rw [h, h2]
def gcOk (l : List CodeM) (fn : Int) : Bool := sizedB l && inB fn 0 (l.length - 1)
noncomputable def gcR (l : List CodeM) (fn : Int) : Int := if gcOk l fn then codeN l (l.getD fn.toNat c0) else 0
theorem gcOk_s {l : List CodeM} {fn : Int} (h : sizedB l = false) : gcOk l fn = false := by unfold gcOk; rw [h]; rfl
theorem gcOk_i {l : List CodeM} {fn : Int} (h : inB fn 0 (l.length - 1) = false) : gcOk l fn = false := by unfold gcOk; rw [h]; simp
theorem gcOk_y {l : List CodeM} {fn : Int} (h1 : sizedB l = true) (h : inB fn 0 (l.length - 1) = true) : gcOk l fn = true := by unfold gcOk; rw [h, h1]; rfl
theorem gcR_no {l : List CodeM} {fn : Int} (h : gcOk l fn = false) : gcR l fn = 0 := by unfold gcR; rw [h]; rfl
theorem gcR_yes {l : List CodeM} {n : Nat} (h : gcOk l n = true) (hn : n < l.length) : gcR l n = codeN l l[n] := by
  unfold gcR; rw [h, Int.toNat_natCast]
  simp [List.getD, List.getElem?_eq_getElem hn]
set_option maxHeartbeats 3200000 in
theorem spec_GoodCode (xs : List Value) (x : ImageM) (fn : Int) (w : World) (hx : RImage w 0 w.heap.size xs x) :
    Calls Tryz.prog 20 #[.agg xs.toArray, .int .i64 fn] w fun e w' => e = .returned (.tuple #[.int .i64 (gcR x.qCodes fn), .bool (gcOk x.qCodes fn)]) ∧ Below w.heap.size w w' := by
  have hx0 := hx
  obtain ⟨v0, rfl, h0⟩ := hx
  have hl := h0.long
  obtain ⟨A, c, rfl⟩ := h0.form
  have hb := (Below.refl w.heap.size w).alloc (Nat.le_refl _) (.cells #[.slice A x.qCodes.length c] 31)
  have hk := Bk.new w 31 #[.slice A x.qCodes.length c]
  have hS := spec_l5Sized _ x _ (RImage_stable.here hx0 hb)
  have hw := fun w => spec_l1In fn 0 (x.qCodes.length - 1) w
  have Hb := hide hb; have Hk := hide hk
  clear hb hk
  cases hs : sizedB x.qCodes
  · have h1 := gcOk_s (fn := fn) hs
    rw [gcR_no h1, h1]
    rw [hs] at hS
    have HS := hide hS; clear hS hs h1 hw hx0 h0
    go_enter Tryz.func20, Tryz.ntmps20
    go_wp2_with (go_at_call 41; refine (HS.out).mono ?_; rintro e w1 ⟨rfl, hb1⟩)
    go_ret2
    exact ⟨rfl, Hb.out.trans (hb1.mono Hb.out.size)⟩
  rw [hs] at hS
  have HS := hide hS; clear hS
  cases hi : inB fn 0 (x.qCodes.length - 1)
  · have h1 := gcOk_i hi
    rw [gcR_no h1, h1]
    simp only [hi] at hw
    have HW := Lib.hid hw; clear hs h1 hw hi hx0 h0
    go_enter Tryz.func20, Tryz.ntmps20
    go_wp2_with (first
      | (go_at_call 41; refine (HS.out).mono ?_; rintro e w1 ⟨rfl, hb1⟩; have q0 := (Hk.out.below hb1).cell 0)
      | (go_at_call 42; refine (HW.out _).mono ?_; rintro e w2 ⟨rfl, rfl⟩))
    go_ret2
    exact ⟨rfl, Hb.out.trans (hb1.mono Hb.out.size)⟩
  have h1 := gcOk_y hs hi
  obtain ⟨n, rfl, hn⟩ := in_nat hi
  simp only [hi] at hw
  rw [gcR_yes h1 hn, h1]
  obtain ⟨b, o, v2, v3, v4, e9, hbB, d0, d1, d2, d3, d4, hc⟩ := RCode_at h0 hn
  have hC := fun W (hW : Below w.heap.size w W) => spec_l5Code _ _ x x.qCodes[n] W (RImage_stable.here hx0 hW) (RCode_stable.here hc hW) hs (List.getElem_mem hn)
  subst e9
  generalize codeN x.qCodes x.qCodes[n] = K at *
  generalize x.qCodes[n].qParams = p0 at *
  generalize x.qCodes[n].qVars = p1 at *
  have hE := fun W (hW : Below w.heap.size w W) => (⟨(hW.cell (p := ⟨b, o + n * 5, none⟩) hbB).trans d0, (hW.cell (p := ⟨b, o + n * 5 + 1, none⟩) hbB).trans d1, (hW.cell (p := ⟨b, o + n * 5 + 2, none⟩) hbB).trans d2, (hW.cell (p := ⟨b, o + n * 5 + 3, none⟩) hbB).trans d3, (hW.cell (p := ⟨b, o + n * 5 + 4, none⟩) hbB).trans d4⟩ : W.cell? ⟨b, o + n * 5, none⟩ = some (.int .i64 p0) ∧ W.cell? ⟨b, o + n * 5 + 1, none⟩ = some (.int .i64 p1) ∧ W.cell? ⟨b, o + n * 5 + 2, none⟩ = some v2 ∧ W.cell? ⟨b, o + n * 5 + 3, none⟩ = some v3 ∧ W.cell? ⟨b, o + n * 5 + 4, none⟩ = some v4)
  have HW := Lib.hid hw; have HC := Lib.hid hC; have HE := Lib.hid hE
  have hnI : (n : Int) < (x.qCodes.length : Int) := by omega
  have hn0 : (0 : Int) ≤ (n : Int) := by omega
  clear hw hC hs hi h1 hx0 h0 d0 d1 d2 d3 d4 hc hE
  go_enter Tryz.func20, Tryz.ntmps20
  go_wp2_with (first
    | (go_at_call 41; refine (HS.out).mono ?_; rintro e w1 ⟨rfl, hb1⟩; have Hb1 := hide (Hb.out.trans (hb1.mono Hb.out.size)); have hk1 := Hk.out.below hb1; have q0 := hk1.cell 0; have Hk1 := hide hk1; clear hb1 hk1)
    | (go_at_call 42; refine (HW.out _).mono ?_; rintro e w2 ⟨rfl, rfl⟩))
  go_region_held3 (fun w' => w'.cell? ⟨w.heap.size, 0, none⟩ = some (.slice (some ⟨b, o, none⟩) x.qCodes.length c) ∧ w'.cell? ⟨b, o + n * 5, none⟩ = some (.int .i64 p0) ∧ w'.cell? ⟨b, o + n * 5 + 1, none⟩ = some (.int .i64 p1) ∧ w'.cell? ⟨b, o + n * 5 + 2, none⟩ = some v2 ∧ w'.cell? ⟨b, o + n * 5 + 3, none⟩ = some v3 ∧ w'.cell? ⟨b, o + n * 5 + 4, none⟩ = some v4) (first | exact ⟨Hk1.out.cell 0, HE.out _ Hb1.out⟩ | exact ⟨Hk1.out.cell 0, HE.out _ Hb1.out.drew⟩ | exact ⟨Hk3.out.cell 0, HE.out _ Hb3.out⟩)
    ((go_at_call 43; refine (HC.out _ (by exact Hb1.out.drew)).mono ?_; rintro e w3 ⟨rfl, hb3⟩; replace hb3 := below_undrewG hb3; have Hb3 := hide (Hb1.out.trans (hb3.mono Hb1.out.size)); have Hk3 := hide (Hk1.out.below hb3); clear hb3))
  go_wp2
  go_ret2
  exact ⟨rfl, Hb3.out⟩
end Go.Proofs.YtaebmliolpgmdaaGreat
