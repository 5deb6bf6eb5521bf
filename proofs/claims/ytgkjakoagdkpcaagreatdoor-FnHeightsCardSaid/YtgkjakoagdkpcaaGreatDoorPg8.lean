
/- paramsOf, l3Params, isProg: what the Go text returns. No condition. -/
import Derived.Test.YtgkjakoagdkpcaaGreatDoorPg7
import Derived.Test.YtgkjakoagdkpcaaGreatDoorIn
set_option linter.unusedSimpArgs false
set_option linter.unusedVariables false
set_option maxRecDepth 100000
namespace Go.Proofs.YtgkjakoagdkpcaaGreatDoor
open Go.RowKit

def parL (l : List FuncM) : List Int := l.map FuncM.qParams
theorem parL_length (l : List FuncM) : (parL l).length = l.length := by simp [parL]
theorem parL_get {l : List FuncM} {k : Nat} (h : k < l.length) : (parL l)[k]'(by rw [parL_length]; exact h) = l[k].qParams := by simp [parL]
set_option maxHeartbeats 1600000 in
theorem spec_l3Params (cs : List Value) (m : ProgM) (w : World) (hr : RProg w 0 w.heap.size cs m) (hl : m.qFuncs.length ≤ 1048576) :
    Calls Tryz.prog 116 #[.agg cs.toArray] w fun e w' => ∃ v, e = .returned v ∧ w'.ownsRow w.heap.size 3 1 v (parL m.qFuncs).length (icells .i64 (parL m.qFuncs)) ∧ Below w.heap.size w w' := by
  obtain ⟨v0, rfl, h0⟩ := hr
  obtain ⟨l⟩ := m
  dsimp only at *
  obtain ⟨A, c, rfl⟩ := h0.form
  have hb := (Below.refl w.heap.size w).alloc (Nat.le_refl _) (.cells #[.slice A l.length c] 103)
  have H0 := hide h0; have Hb0 := hide hb; clear h0 hb
  go_enter Tryz.func116, Tryz.ntmps116
  go_wp2
  go_loopw [3, 9] (fun sv i wr => ∃ k : Nat, k ≤ l.length ∧ i = .int .i64 k ∧ wr.ownsRow w.heap.size 3 1 sv k (icells .i64 (parL (l.take k))) ∧ Below w.heap.size w wr) (fun _ i _ => l.length - (intOf i).toNat)
  case atStart => exact ⟨0, by omega, rfl, World.ownsRow_nil _ _ _ _, Hb0.out⟩
  case round =>
    obtain ⟨k, hk, rfl, hown, hb⟩ := hrel
    by_cases hlt : k < l.length
    · obtain ⟨b, o, A2, c2, A3, c3, rfl, hbB, d0, d1, d2, d3, hx⟩ := RFunc_lit H0.out hlt
      have x0 := (hb.cell (p := ⟨b, o + k * 4, none⟩) hbB).trans d0
      have x1 := (hb.cell (p := ⟨b, o + k * 4 + 1, none⟩) hbB).trans d1
      have x2 := (hb.cell (p := ⟨b, o + k * 4 + 2, none⟩) hbB).trans d2
      have x3 := (hb.cell (p := ⟨b, o + k * 4 + 3, none⟩) hbB).trans d3
      have hbs := hb.size
      have htk : parL (l.take (k + 1)) = parL (l.take k) ++ [l[k].qParams] := by unfold parL; rw [List.take_succ_eq_append_getElem hlt, List.map_append]; rfl
      have hbw : b < wr.heap.size := by omega
      have Hal := hide (hown.alloc (.cells #[.int .i64 l[k].qParams, .int .i64 l[k].qVars, .slice A2 l[k].qBody.length c2, .slice A3 l[k].qStmts.length c3] 135))
      have Hab := hide (hb.alloc hbs (.cells #[.int .i64 l[k].qParams, .int .i64 l[k].qVars, .slice A2 l[k].qBody.length c2, .slice A3 l[k].qStmts.length c3] 135))
      have Htk := hide htk
      clear hown hb htk d0 d1 d2 d3 hx
      generalize l[k] = f at *
      obtain ⟨f0, f1, f2, f3⟩ := f
      dsimp only at *
      go_wp2_with (at_builtin; refine wpList_push' rfl _ _ _ rfl okI64 rfl Hal.out _ rfl (by rw [World.size_alloc]) rfl (by simp [Value.oneCell']) (by unfold maxLen; omega) (by omega) Hab.out.size ?_; intro v1 w1 hown1 hg1)
      go_roundw
      case rel => exact ⟨k + 1, by omega, by go_num, by rw [Htk.out, icells_append]; exact hown1, belowPush Hab.out Hal.out Hab.out.size hg1⟩
      case measure => simp [intOf]; omega
    · obtain rfl : k = l.length := by omega
      rw [List.take_length] at hown
      have Hown := hide hown; have Hb := hide hb; clear hown hb
      go_wp2
      go_ret
      exact ⟨_, rfl, by rw [parL_length]; exact Hown.out, Hb.out⟩

/-- what the program asks of a statement -/
def stP (vars : Int) (params : List Int) (s : StmtM) : Bool := decide (0 ≤ s.qN) && stmtImp vars params s
/-- the word of a program -/
def progB (fs : List FuncM) : Bool := inB fs.length 1 5 && (parOk (parL fs) && (decide ((parL fs).getD 0 0 = 0) && fs.all fun f => shapedB f && f.qStmts.all (stP f.qVars (parL fs))))
theorem shaped_vars {f : FuncM} (h : shapedB f = true) : 0 ≤ f.qVars ∧ f.qVars ≤ 6 ∧ f.qStmts.length ≤ 16 := by
  unfold shapedB at h
  simp only [Bool.and_eq_true, decide_eq_true_eq] at h
  have h1 := inB_iff.1 h.1.1
  have h2 := inB_iff.1 h.1.2.1
  exact ⟨by omega, by omega, h.1.2.2.1⟩
end Go.Proofs.YtgkjakoagdkpcaaGreatDoor
