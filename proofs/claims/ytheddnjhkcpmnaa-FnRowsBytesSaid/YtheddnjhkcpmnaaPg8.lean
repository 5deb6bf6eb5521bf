
/- paramsOf, l3Params, isProg: what the Go text returns. No condition. -/
import Derived.Test.YtheddnjhkcpmnaaPg7
import Derived.Test.YtheddnjhkcpmnaaIn
set_option linter.unusedSimpArgs false
set_option linter.unusedVariables false
set_option maxRecDepth 100000
namespace Go.Proofs.Ytheddnjhkcpmnaa
open Go.RowKit

def parL (l : List FuncM) : List Int := l.map FuncM.qParams
theorem parL_length (l : List FuncM) : (parL l).length = l.length := by simp [parL]
theorem parL_get {l : List FuncM} {k : Nat} (h : k < l.length) : (parL l)[k]'(by rw [parL_length]; exact h) = l[k].qParams := by simp [parL]
/-- ContainsFunc over statements that are read, with what the closure captured -/
theorem anyStmt (l : List StmtM) (A : Option Addr) (c : Nat) (p : StmtM → Bool) (g : Nat) (lb : Array Value) (eg : ∀ args w, (callFunc g args).run Try.prog w = .ok (.enter g args) w) (w : World) (hr : RL RStmt 5 w 0 w.heap.size (.slice A l.length c) l) (hl : l.length ≤ 9223372036854775807)
    (hp : ∀ j (hj : j < l.length) (A5 : Option Addr) (c5 : Nat) (A6 : Option Addr) (c6 : Nat) (A7 : Option Addr) (c7 : Nat) (W : World), Below w.heap.size w W → Rd w w.heap.size (.slice A5 l[j].qEx.length c5) l[j].qEx.length (pcells l[j].qEx) →
      Calls Try.prog g (#[.agg #[.int .i64 l[j].qKind, .int .i64 l[j].qN, .slice A5 l[j].qEx.length c5, .slice A6 l[j].qThen.length c6, .slice A7 l[j].qElse.length c7]] ++ lb) W fun e w' => e = .returned (.bool (p l[j])) ∧ Below W.heap.size W w') :
    Calls Try.prog 83 #[.slice A l.length c, .func (.func g) #[] lb] w fun e w' => e = .returned (.bool (l.any p)) ∧ Below w.heap.size w w' := by
  have hch : ∀ j : Nat, ∃ v : Value × Value × Value, ∀ hj : j < l.length, (∃ (A5 : Option Addr) (c5 : Nat) (A6 : Option Addr) (c6 : Nat) (A7 : Option Addr) (c7 : Nat), v = (.slice A5 l[j].qEx.length c5, .slice A6 l[j].qThen.length c6, .slice A7 l[j].qElse.length c7) ∧ Rd w w.heap.size (.slice A5 l[j].qEx.length c5) l[j].qEx.length (pcells l[j].qEx)) ∧
      ∃ b o, A = some ⟨b, o, none⟩ ∧ b < w.heap.size ∧ w.cell? ⟨b, o + j * 5, none⟩ = some (.int .i64 l[j].qKind) ∧ w.cell? ⟨b, o + j * 5 + 1, none⟩ = some (.int .i64 l[j].qN) ∧ w.cell? ⟨b, o + j * 5 + 2, none⟩ = some v.1 ∧ w.cell? ⟨b, o + j * 5 + 3, none⟩ = some v.2.1 ∧ w.cell? ⟨b, o + j * 5 + 4, none⟩ = some v.2.2 := by
    intro j
    by_cases hj : j < l.length
    · obtain ⟨b, o, A5, c5, A6, c6, A7, c7, hA, hb, e0, e1, e2, e3, e4, r2, r3, r4⟩ := RStmt_lit hr hj
      exact ⟨(_, _, _), fun _ => ⟨⟨A5, c5, A6, c6, A7, c7, rfl, r2.rd⟩, b, o, hA, hb, e0, e1, e2, e3, e4⟩⟩
    · exact ⟨(.slice none 0 0, .slice none 0 0, .slice none 0 0), fun h => absurd h hj⟩
  obtain ⟨f, hf⟩ := Classical.axiomOfChoice hch
  rw [← anyq_list (q := fun j => p (l.getD j st0)) (p := p) (l := l) (fun j hj => by simp [List.getD, List.getElem?_eq_getElem hj])]
  refine cfStmt A l.length c (fun j => .int .i64 (l.getD j st0).qKind) (fun j => .int .i64 (l.getD j st0).qN) (fun j => (f j).1) (fun j => (f j).2.1) (fun j => (f j).2.2) _ g lb eg w hl (fun j hj => ?_) (fun j hj W hW => ?_)
  · obtain ⟨_, b, o, hA, hb, e0, e1, e2, e3, e4⟩ := hf j hj
    refine ⟨b, o, hA, hb, ?_, ?_, e2, e3, e4⟩
    · rw [e0]; simp [List.getD, List.getElem?_eq_getElem hj]
    · rw [e1]; simp [List.getD, List.getElem?_eq_getElem hj]
  · obtain ⟨⟨A5, c5, A6, c6, A7, c7, hv, hrd⟩, _⟩ := hf j hj
    have := hp j hj A5 c5 A6 c6 A7 c7 W hW hrd
    simp only [hv, List.getD, List.getElem?_eq_getElem hj, Option.getD_some]
    exact this

set_option maxHeartbeats 1600000 in
theorem impl_paramsOf (cs : List Value) (m : ProgM) (w : World) (hr : RProg w 0 w.heap.size cs m) (hl : m.qFuncs.length ≤ 1048576) :
    Calls Try.prog 86 #[.agg cs.toArray] w fun e w' => ∃ v, e = .returned v ∧ w'.ownsRow w.heap.size 3 1 v (parL m.qFuncs).length (icells .i64 (parL m.qFuncs)) ∧ Below w.heap.size w w' := by
  obtain ⟨v0, rfl, h0⟩ := hr
  obtain ⟨l⟩ := m
  dsimp only at *
  obtain ⟨A, c, rfl⟩ := h0.form
  have hb := (Below.refl w.heap.size w).alloc (Nat.le_refl _) (.cells #[.slice A l.length c] 45)
  have hk := Bk.new w 45 #[.slice A l.length c]
  have H0 := hide h0; have Hb0 := hide hb; have Hk0 := hide hk; clear h0 hb hk
  go_enter Try.func86, Try.ntmps86
  go_wp2_with (at_make; go_must (refine wpList_makeN rfl _ _ _ rfl okI64 l.length rfl rfl (by omega) (by unfold maxLen; omega) ?_); intro w1 hown1 hb1; have Hs1 := hide hown1; have Hb1 := hide (Hb0.out.trans (hb1.mono Hb0.out.size)); have Hk1 := hide (Hk0.out.below hb1); have q0 := Hk1.out.cell 0; clear hown1 hb1)
  have hs1 := Hs1.out
  rw [made_int] at hs1
  have e1 : (w.alloc (.cells #[.slice A l.length c] 45)).heap.size = w.heap.size + 1 := World.size_alloc _ _
  rw [e1] at hs1
  have Hs2 := hide hs1; clear hs1
  clear q0
  go_loopw [13] (fun i wr => ∃ k : Nat, k ≤ l.length ∧ i = .int .i64 k ∧ wr.ownsRow (w.heap.size + 1) 3 1 (.slice (some ⟨w.heap.size + 1, 0, none⟩) l.length l.length) l.length (icells .i64 (filled (parL l) k)) ∧ Below w.heap.size w wr) (fun i _ => l.length - (intOf i).toNat)
  case atStart => exact ⟨0, by omega, rfl, by rw [filled_zero, parL_length]; exact Hs2.out, Hb1.out⟩
  case round =>
    obtain ⟨k, hk, rfl, hown, hb⟩ := hrel
    by_cases hlt : k < l.length
    · obtain ⟨b, o, A2, c2, A3, c3, rfl, hbB, d0, d1, d2, d3, hx⟩ := RFunc_lit H0.out hlt
      have x0 := (hb.cell (p := ⟨b, o + k * 4, none⟩) hbB).trans d0
      have x1 := (hb.cell (p := ⟨b, o + k * 4 + 1, none⟩) hbB).trans d1
      have x2 := (hb.cell (p := ⟨b, o + k * 4 + 2, none⟩) hbB).trans d2
      have x3 := (hb.cell (p := ⟨b, o + k * 4 + 3, none⟩) hbB).trans d3
      have hbs := hb.size
      have hgl := (hown.lt _ rfl).2
      have hfs := filled_set (parL l) k (by rw [parL_length]; exact hlt)
      rw [parL_get hlt] at hfs
      obtain ⟨u0, hu0⟩ := own_at hown (j := k) (by omega)
      have hz0 := hown.frozenAt k
      have hbw : b < wr.heap.size := by omega
      have Hown := hide hown; have Hb := hide hb; have Hfs := hide hfs
      clear hown hb hfs d0 d1 d2 d3 hx
      generalize l[k] = f at *
      obtain ⟨f0, f1, f2, f3⟩ := f
      dsimp only at *
      go_wp2
      go_roundw
      case rel =>
        refine ⟨k + 1, by omega, by go_num, ?_, (Hb.out.setCell (p := ⟨w.heap.size + 1, k, none⟩) (by dsimp only; omega) _).alloc (by simp only [World.size_setCell]; exact hbs) _⟩
        have := own_set Hown.out k (.int .i64 f0)
        rw [icells_set, Hfs.out] at this
        exact this.alloc _
      case measure => simp [intOf]; omega
    · obtain rfl : k = l.length := by omega
      have e := filled_all (parL l)
      rw [parL_length] at e
      rw [e] at hown
      have Hown := hide hown; have Hb := hide hb; clear hown hb
      go_wp2
      go_ret
      exact ⟨_, rfl, by rw [parL_length]; exact own_base Hown.out (by omega), Hb.out⟩
set_option maxHeartbeats 1600000 in
theorem spec_l3Params (cs : List Value) (m : ProgM) (w : World) (hr : RProg w 0 w.heap.size cs m) (hl : m.qFuncs.length ≤ 1048576) :
    Calls Try.prog 87 #[.agg cs.toArray] w fun e w' => ∃ v, e = .returned v ∧ w'.ownsRow w.heap.size 3 1 v (parL m.qFuncs).length (icells .i64 (parL m.qFuncs)) ∧ Below w.heap.size w w' := by
  obtain ⟨v0, rfl, h0⟩ := hr
  obtain ⟨l⟩ := m
  dsimp only at *
  obtain ⟨A, c, rfl⟩ := h0.form
  have hb := (Below.refl w.heap.size w).alloc (Nat.le_refl _) (.cells #[.slice A l.length c] 45)
  have H0 := hide h0; have Hb0 := hide hb; clear h0 hb
  go_enter Try.func87, Try.ntmps87
  go_wp2
  go_loopw [3, 9] (fun sv i wr => ∃ k : Nat, k ≤ l.length ∧ i = .int .i64 k ∧ wr.ownsRow w.heap.size 3 1 sv k (icells .i64 (parL (l.take k))) ∧ Below w.heap.size w wr) (fun _ i _ => l.length - (intOf i).toNat)
  case atStart => exact ⟨0, by omega, rfl, World.ownsRow_nil _ _ _ _, Hb0.out⟩
  case round =>
    obtain ⟨k, hk, rfl, hown, hb⟩ := hrel
    by_cases hlt : k < l.length
    · obtain ⟨b, o, A2, c2, A3, c3, rfl, hbB, d0, d1, d2, d3, hx⟩ := RFunc_lit H0.out hlt
      have x0 := (hb.cell (p := ⟨b, o + k * 4, none⟩) hbB).trans d0
      have x1 := (hb.cell (p := ⟨b, o + k * 4 + 1, none⟩) hbB).trans d1
      have x2 := (hb.cell (p := ⟨b, o + k * 4 + 2, none⟩) hbB).trans d2
      have x3 := (hb.cell (p := ⟨b, o + k * 4 + 3, none⟩) hbB).trans d3
      have hbs := hb.size
      have htk : parL (l.take (k + 1)) = parL (l.take k) ++ [l[k].qParams] := by unfold parL; rw [List.take_succ_eq_append_getElem hlt, List.map_append]; rfl
      have hbw : b < wr.heap.size := by omega
      have Hal := hide (hown.alloc (.cells #[.int .i64 l[k].qParams, .int .i64 l[k].qVars, .slice A2 l[k].qBody.length c2, .slice A3 l[k].qStmts.length c3] 59))
      have Hab := hide (hb.alloc hbs (.cells #[.int .i64 l[k].qParams, .int .i64 l[k].qVars, .slice A2 l[k].qBody.length c2, .slice A3 l[k].qStmts.length c3] 59))
      have Htk := hide htk
      clear hown hb htk d0 d1 d2 d3 hx
      generalize l[k] = f at *
      obtain ⟨f0, f1, f2, f3⟩ := f
      dsimp only at *
      go_wp2_with (at_builtin; refine wpList_push' rfl _ _ _ rfl okI64 rfl Hal.out _ rfl (by rw [World.size_alloc]) rfl (by simp [Value.oneCell']) (by unfold maxLen; omega) (by omega) Hab.out.size ?_; intro v1 w1 hown1 hg1)
      go_roundw
      case rel => exact ⟨k + 1, by omega, by go_num, by rw [Htk.out, icells_append]; exact hown1, belowPush Hab.out Hal.out Hab.out.size hg1⟩
      case measure => simp [intOf]; omega
    · obtain rfl : k = l.length := by omega
      rw [List.take_length] at hown
      have Hown := hide hown; have Hb := hide hb; clear hown hb
      go_wp2
      go_ret
      exact ⟨_, rfl, by rw [parL_length]; exact Hown.out, Hb.out⟩

/-- what the program asks of a statement -/
def stP (vars : Int) (params : List Int) (s : StmtM) : Bool := decide (0 ≤ s.qN) && stmtImp vars params s
set_option maxHeartbeats 1600000 in
theorem impl_isProg1 (a0 vars : Int) (x2 x3 : Value) (k N : Int) (ex : List P2) (A5 A6 A7 : Option Addr) (c5 c6 c7 n3 n4 : Nat) (params : List Int) (Ap : Option Addr) (cp : Nat) (w : World) (gf gp : Nat)
    (hex : Rd w w.heap.size (.slice A5 ex.length c5) ex.length (pcells ex)) (hp : Rd w w.heap.size (.slice Ap params.length cp) params.length (icells .i64 params)) (hv : 0 ≤ vars) (hv2 : vars ≤ 6) (hok : parOk params = true)
    (hf : Bk w gf 59 #[.int .i64 a0, .int .i64 vars, x2, x3]) (hpb : Bk w gp 48 #[.slice Ap params.length cp]) :
    Calls Try.prog 117 #[.agg #[.int .i64 k, .int .i64 N, .slice A5 ex.length c5, .slice A6 n3 c6, .slice A7 n4 c7], .pointer (some ⟨gf, 0, none⟩), .pointer (some ⟨gp, 0, none⟩)] w fun e w' => e = .returned (.bool (!(decide (0 ≤ N) && stmtImpN vars params k N ex n3 n4))) ∧ Below w.heap.size w w' := by
  have hb0 := (Below.refl w.heap.size w).alloc (Nat.le_refl _) (.cells #[.int .i64 k, .int .i64 N, .slice A5 ex.length c5, .slice A6 n3 c6, .slice A7 n4 c7] 103)
  have hst := impl_isStmt a0 vars x2 x3 k N ex A5 A6 A7 c5 c6 c7 n3 n4 params (.slice Ap params.length cp) _ (hex.here hb0) (hp.here hb0) hv hv2 hok
  generalize stmtImpN vars params k N ex n3 n4 = R at *
  have hgf := hf.lt; have hgp := hpb.lt
  have f0 := hf.cell 0; have f1 := hf.cell 1; have f2 := hf.cell 2; have f3 := hf.cell 3; have p0 := hpb.cell 0
  have Hb0 := hide hb0; have Hst := hide hst
  clear hb0 hst hex hp hok hf hpb
  by_cases hN : N < 0
  · rw [decide_eq_false (show ¬ 0 ≤ N by omega)]
    go_enter Try.func117, Try.ntmps117
    go_wp2
    go_ret
    exact ⟨rfl, Hb0.out⟩
  · have hN' : 0 ≤ N := by omega
    rw [decide_eq_true hN', Bool.true_and]
    clear hN
    go_enter Try.func117, Try.ntmps117
    go_wp2_with (go_at_call 118; refine (Hst.out).mono ?_; rintro e w1 ⟨rfl, hb1⟩)
    go_ret
    exact ⟨retB (by simp [show ¬ N < 0 by omega]), Hb0.out.trans (hb1.mono Hb0.out.size)⟩

/-- the word of a program -/
def progB (fs : List FuncM) : Bool := inB fs.length 1 5 && (parOk (parL fs) && (decide ((parL fs).getD 0 0 = 0) && fs.all fun f => shapedB f && f.qStmts.all (stP f.qVars (parL fs))))
theorem shaped_vars {f : FuncM} (h : shapedB f = true) : 0 ≤ f.qVars ∧ f.qVars ≤ 6 ∧ f.qStmts.length ≤ 16 := by
  unfold shapedB at h
  simp only [Bool.and_eq_true, decide_eq_true_eq] at h
  have h1 := inB_iff.1 h.1.1
  have h2 := inB_iff.1 h.1.2.1
  exact ⟨by omega, by omega, h.1.2.2.1⟩
set_option maxHeartbeats 1200000 in
theorem impl_isProg (cs : List Value) (m : ProgM) (w : World) (hr : RProg w 0 w.heap.size cs m) (hz : szProgN m ≤ 1048576) :
    Calls Try.prog 78 #[.agg cs.toArray] w fun e w' => e = .returned (.bool (progB m.qFuncs)) ∧ Below w.heap.size w w' := by
  have hr0 := hr
  obtain ⟨v0, rfl, h0⟩ := hr
  obtain ⟨l⟩ := m
  dsimp only at *
  obtain ⟨A, c, rfl⟩ := h0.form
  have hll : l.length ≤ 1048576 := by have h1 : szProgN ⟨l⟩ = szFuncsN l := rfl; have h2 : szFuncsN l = l.length + szFuncsL l := rfl; omega
  have hel : ∀ k (h : k < l.length), szFuncN l[k] ≤ 1048576 := fun k h => by have h1 : szProgN ⟨l⟩ = szFuncsN l := rfl; have h2 : szFuncsN l = l.length + szFuncsL l := rfl; have h3 := szFuncsL_mem h; omega
  have hb := (Below.refl w.heap.size w).alloc (Nat.le_refl _) (.cells #[.slice A l.length c] 45)
  have hk := Bk.new w 45 #[.slice A l.length c]
  have hpar := impl_paramsOf _ ⟨l⟩ _ (RProg_stable.here hr0 hb) hll
  have f1 : inB l.length 1 5 = false → progB l = false := fun h => by unfold progB; rw [h]; rfl
  have f2 : parOk (parL l) = false → progB l = false := fun h => by unfold progB; rw [h]; simp
  have f3 : ¬ (parL l).getD 0 0 = 0 → progB l = false := fun h => by unfold progB; rw [decide_eq_false h]; simp
  have f4 : (l.all fun f => shapedB f && f.qStmts.all (stP f.qVars (parL l))) = false → progB l = false := fun h => by unfold progB; rw [h]; simp
  have ft : inB l.length 1 5 = true → parOk (parL l) = true → (parL l).getD 0 0 = 0 → (l.all fun f => shapedB f && f.qStmts.all (stP f.qVars (parL l))) = true → progB l = true := fun a b c d => by unfold progB; rw [a, b, decide_eq_true c, d]; rfl
  generalize progB l = R at *
  have hpl := parL_length l
  dsimp only at hpar
  generalize hPP : parL l = PP at *
  have hPP := hPP.symm
  have H0 := hide h0; have Hb0 := hide hb; have Hk0 := hide hk; have Hpar := hide hpar; have Hel := hide hel; have HPP := hide hPP
  clear h0 hr0 hb hk hpar hel hPP
  have hpl1 : PP.length ≤ l.length := by omega
  have hpl2 : l.length ≤ PP.length := by omega
  clear hpl
  have hw := fun w => impl_within l.length 1 5 w
  have step1 : True := trivial
  cases g1 : inB l.length 1 5
  case false =>
    simp only [g1] at hw
    have HW := Lib.hid hw; have HF := hide (f1 g1); clear hw g1 f1 f2 f3 f4 ft
    go_enter Try.func78, Try.ntmps78
    go_wp2_with (first
      | (go_at_call 86; refine (Hpar.out).mono ?_; rintro e w1 ⟨pv, rfl, hown, hb1⟩; obtain ⟨Ap, cp, rfl⟩ := own_form hown; have Hb1 := hide (Hb0.out.trans (hb1.mono Hb0.out.size)); have Hk1 := hide (Hk0.out.below hb1); have q0 := Hk1.out.cell 0; have hkl := Hk1.out.lt; clear hown hb1)
      | (go_at_call 79; refine (HW.out _).mono ?_; rintro e w' ⟨rfl, rfl⟩))
    go_ret
    exact ⟨retB HF.out.symm, Hb1.out.alloc Hb1.out.size _⟩
  simp only [g1] at hw
  have HW := Lib.hid hw
  have hl5 := inB_iff.1 g1
  have ft := ft g1
  clear hw g1 f1
  have ARM := step1
  cases g2 : parOk PP
  case false =>
    have HF := hide (f2 g2); clear f2 f3 f4 ft
    go_enter Try.func78, Try.ntmps78
    go_wp2_with (first
      | (go_at_call 86; refine (Hpar.out).mono ?_; rintro e w1 ⟨pv, rfl, hown, hb1⟩; obtain ⟨Ap, cp, rfl⟩ := own_form hown; have Hb1 := hide (Hb0.out.trans (hb1.mono Hb0.out.size)); have Hk1 := hide (Hk0.out.below hb1); have q0 := Hk1.out.cell 0; have hkl := Hk1.out.lt; have Hown := hide hown; have hap := impl_areParams (.slice Ap PP.length cp) PP (w1.alloc (.cells #[.slice Ap PP.length cp] 48)) ((Rd.of_own hown).here ((Below.refl _ _).alloc (Nat.le_refl _) (.cells #[.slice Ap PP.length cp] 48))); rw [g2] at hap; have Hap := hide hap; clear hap;  clear hown hb1)
      | (go_at_call 79; refine (HW.out _).mono ?_; rintro e w' ⟨rfl, rfl⟩)
      | (go_at_call 115; refine (Hap.out).mono ?_; rintro e w2 ⟨rfl, hb2⟩; have Hb2 := hide ((Hb1.out.alloc Hb1.out.size (.cells #[.slice Ap PP.length cp] 48)).trans (hb2.mono (Hb1.out.alloc Hb1.out.size (.cells #[.slice Ap PP.length cp] 48)).size)); have Hk2 := hide ((Hk1.out.alloc (.cells #[.slice Ap PP.length cp] 48)).below hb2); have Hp2 := hide ((Bk.new w1 48 #[.slice Ap PP.length cp]).below hb2); have Ho2 := hide (own_keep (Hown.out.alloc (.cells #[.slice Ap PP.length cp] 48)) hb2); have r0 := Hk2.out.cell 0; have r1 := Hp2.out.cell 0;  clear hb2))
    go_ret
    exact ⟨retB HF.out.symm, Hb2.out⟩
  have ft := ft g2
  clear f2
  obtain ⟨x0, hx0⟩ : ∃ x0, PP.getD 0 0 = x0 := ⟨_, rfl⟩
  have hPc : (icells .i64 PP)[0]? = some (.int .i64 x0) := by
    rw [List.getElem?_eq_getElem (by rw [icells_length]; omega), icells_get _ _ (by omega), ← hx0]
    simp [List.getD, List.getElem?_eq_getElem (show 0 < PP.length by omega)]
  rw [hx0] at f3 ft
  by_cases g3 : x0 = 0
  case neg =>
    have HF := hide (f3 g3); clear f3 f4 ft
    have b3 : (x0 != 0) = true := by rw [bne_iff_ne]; exact g3
    clear g3
    go_enter Try.func78, Try.ntmps78
    go_wp2_with (first
      | (go_at_call 86; refine (Hpar.out).mono ?_; rintro e w1 ⟨pv, rfl, hown, hb1⟩; obtain ⟨gpb, cp, rfl⟩ := own_some hown (by omega); have Hb1 := hide (Hb0.out.trans (hb1.mono Hb0.out.size)); have Hk1 := hide (Hk0.out.below hb1); have q0 := Hk1.out.cell 0; have hkl := Hk1.out.lt; have Hown := hide hown; have hap := impl_areParams (.slice (some ⟨gpb, 0, none⟩) PP.length cp) PP (w1.alloc (.cells #[.slice (some ⟨gpb, 0, none⟩) PP.length cp] 48)) ((Rd.of_own hown).here ((Below.refl _ _).alloc (Nat.le_refl _) (.cells #[.slice (some ⟨gpb, 0, none⟩) PP.length cp] 48))); rw [g2] at hap; have Hap := hide hap; clear hap;  clear hown hb1)
      | (go_at_call 79; refine (HW.out _).mono ?_; rintro e w' ⟨rfl, rfl⟩)
      | (go_at_call 115; refine (Hap.out).mono ?_; rintro e w2 ⟨rfl, hb2⟩; have Hb2 := hide ((Hb1.out.alloc Hb1.out.size (.cells #[.slice (some ⟨gpb, 0, none⟩) PP.length cp] 48)).trans (hb2.mono (Hb1.out.alloc Hb1.out.size (.cells #[.slice (some ⟨gpb, 0, none⟩) PP.length cp] 48)).size)); have Hk2 := hide ((Hk1.out.alloc (.cells #[.slice (some ⟨gpb, 0, none⟩) PP.length cp] 48)).below hb2); have Hp2 := hide ((Bk.new w1 48 #[.slice (some ⟨gpb, 0, none⟩) PP.length cp]).below hb2); have Ho2 := hide (own_keep (Hown.out.alloc (.cells #[.slice (some ⟨gpb, 0, none⟩) PP.length cp] 48)) hb2); have r0 := Hk2.out.cell 0; have r1 := Hp2.out.cell 0; have hpl2 := (Ho2.out.lt _ rfl); have s0 := Ho2.out.cellAt 0 (by omega); have s1 : w2.cell? ⟨gpb, 0, none⟩ = some (.int .i64 x0) := (by rw [s0, hPc]); clear s0; clear hb2))
    go_ret
    exact ⟨retB HF.out.symm, Hb2.out⟩
  subst g3
  have F4 := hide f4; have FT := hide (ft rfl); have G2 := hide g2
  have hl1 : 1 ≤ l.length := by omega
  clear f3 f4 ft
  go_enter Try.func78, Try.ntmps78
  go_wp2_with (first
    | (go_at_call 86; refine (Hpar.out).mono ?_; rintro e w1 ⟨pv, rfl, hown, hb1⟩; obtain ⟨gpb, cp, rfl⟩ := own_some hown (by omega); have Hb1 := hide (Hb0.out.trans (hb1.mono Hb0.out.size)); have Hk1 := hide (Hk0.out.below hb1); have q0 := Hk1.out.cell 0; have hkl := Hk1.out.lt; have Hown := hide hown; have hap := impl_areParams (.slice (some ⟨gpb, 0, none⟩) PP.length cp) PP (w1.alloc (.cells #[.slice (some ⟨gpb, 0, none⟩) PP.length cp] 48)) ((Rd.of_own hown).here ((Below.refl _ _).alloc (Nat.le_refl _) (.cells #[.slice (some ⟨gpb, 0, none⟩) PP.length cp] 48))); rw [g2] at hap; have Hap := hide hap; clear hap;  clear hown hb1)
    | (go_at_call 79; refine (HW.out _).mono ?_; rintro e w' ⟨rfl, rfl⟩)
    | (go_at_call 115; refine (Hap.out).mono ?_; rintro e w2 ⟨rfl, hb2⟩; have Hb2 := hide ((Hb1.out.alloc Hb1.out.size (.cells #[.slice (some ⟨gpb, 0, none⟩) PP.length cp] 48)).trans (hb2.mono (Hb1.out.alloc Hb1.out.size (.cells #[.slice (some ⟨gpb, 0, none⟩) PP.length cp] 48)).size)); have Hk2 := hide ((Hk1.out.alloc (.cells #[.slice (some ⟨gpb, 0, none⟩) PP.length cp] 48)).below hb2); have Hp2 := hide ((Bk.new w1 48 #[.slice (some ⟨gpb, 0, none⟩) PP.length cp]).below hb2); have Ho2 := hide (own_keep (Hown.out.alloc (.cells #[.slice (some ⟨gpb, 0, none⟩) PP.length cp] 48)) hb2); have r0 := Hk2.out.cell 0; have r1 := Hp2.out.cell 0; have hpl2 := (Ho2.out.lt _ rfl); have s0 := Ho2.out.cellAt 0 (by omega); have s1 : w2.cell? ⟨gpb, 0, none⟩ = some (.int .i64 0) := (by rw [s0, hPc]); clear s0; clear hb2))
  clear r0 r1 s1 q0
  go_loopw [27] (fun i wr => ∃ k : Nat, k ≤ l.length ∧ i = .int .i64 k ∧ (l.take k).all (fun f => shapedB f && f.qStmts.all (stP f.qVars PP)) = true ∧ wr.ownsRow (w.heap.size + 1) 3 1 (.slice (some ⟨gpb, 0, none⟩) PP.length cp) PP.length (icells .i64 PP) ∧ Below w.heap.size w wr ∧ Bk wr w.heap.size 45 #[.slice A l.length c] ∧ Bk wr w1.heap.size 48 #[.slice (some ⟨gpb, 0, none⟩) PP.length cp]) (fun i _ => l.length - (intOf i).toNat)
  case atStart => exact ⟨0, by omega, rfl, by simp, own_base Ho2.out (by rw [World.size_alloc]; exact Nat.le_refl _), Hb2.out, Hk2.out, Hp2.out⟩
  case round =>
    obtain ⟨k, hk, rfl, hall, hown, hb, hkk, hpp⟩ := hrel
    have hbs := hb.size
    by_cases hlt : k < l.length
    · obtain ⟨b, o, A2, c2, A3, c3, rfl, hbB, d0, d1, d2, d3, hx⟩ := RFunc_lit H0.out hlt
      have x0 := (hb.cell (p := ⟨b, o + k * 4, none⟩) hbB).trans d0
      have x1 := (hb.cell (p := ⟨b, o + k * 4 + 1, none⟩) hbB).trans d1
      have x2 := (hb.cell (p := ⟨b, o + k * 4 + 2, none⟩) hbB).trans d2
      have x3 := (hb.cell (p := ⟨b, o + k * 4 + 3, none⟩) hbB).trans d3
      have hbw : b < wr.heap.size := by omega
      have hstep := fun h => all_take_step (p := fun f => shapedB f && f.qStmts.all (stP f.qVars PP)) hlt hall h
      have hfail := fun h => all_false (p := fun f => shapedB f && f.qStmts.all (stP f.qVars PP)) hlt h
      have hzk := Hel.out k hlt
      have Hx := hide hx; have Hstep := hide hstep; have Hfail := hide hfail
      clear hx hstep hfail hall d0 d1 d2 d3
      generalize l[k] = f at *
      obtain ⟨f0, f1, f2, f3⟩ := f
      dsimp only at *
      have hB := hide (hb.alloc hbs (.cells #[.int .i64 f0, .int .i64 f1, .slice A2 f2.length c2, .slice A3 f3.length c3] 59))
      have hKk := hide (hkk.alloc (.cells #[.int .i64 f0, .int .i64 f1, .slice A2 f2.length c2, .slice A3 f3.length c3] 59))
      have hPp := hide (hpp.alloc (.cells #[.int .i64 f0, .int .i64 f1, .slice A2 f2.length c2, .slice A3 f3.length c3] 59))
      have hOw := hide (hown.alloc (.cells #[.int .i64 f0, .int .i64 f1, .slice A2 f2.length c2, .slice A3 f3.length c3] 59))
      have hFb := hide (Bk.new wr 59 #[.int .i64 f0, .int .i64 f1, .slice A2 f2.length c2, .slice A3 f3.length c3])
      have hsh := impl_isShaped _ ⟨f0, f1, f2, f3⟩ _ (RFunc_stable.here Hx.out hB.out) hzk
      clear hb hkk hpp hown
      cases gs : shapedB ⟨f0, f1, f2, f3⟩
      · rw [gs] at hsh
        have Hsh := hide hsh; have HF := hide (F4.out (Hfail.out (by rw [gs]; rfl)))
        clear hsh gs
        go_wp2_with (go_at_call 116; refine (Hsh.out).mono ?_; rintro e w5 ⟨rfl, hb5⟩)
        go_ret
        exact ⟨retB HF.out.symm, hB.out.trans (hb5.mono hB.out.size)⟩
      · rw [gs] at hsh
        obtain ⟨v1, v2, v3⟩ := shaped_vars gs
        dsimp only at v1 v2 v3
        have Hsh := hide hsh; have Gs := hide gs
        clear hsh gs
        obtain ⟨_, _, ey, y2, y3⟩ := id Hx.out
        injection ey with _ ey
        injection ey with _ ey
        injection ey with ey1 ey
        injection ey with ey2 _
        subst ey1 ey2
        dsimp only at y2 y3
        have Y3 := hide y3
        clear y2 y3
        have hcl : ∀ (W : World), Below w.heap.size w W → Bk W wr.heap.size 59 #[.int .i64 f0, .int .i64 f1, .slice A2 f2.length c2, .slice A3 f3.length c3] → Bk W w1.heap.size 48 #[.slice (some ⟨gpb, 0, none⟩) PP.length cp] → W.ownsRow (w.heap.size + 1) 3 1 (.slice (some ⟨gpb, 0, none⟩) PP.length cp) PP.length (icells .i64 PP) →
            Calls Try.prog 83 #[.slice A3 f3.length c3, .func (.func 117) #[] #[.pointer (some ⟨wr.heap.size, 0, none⟩), .pointer (some ⟨w1.heap.size, 0, none⟩)]] W fun e w' => e = .returned (.bool (!f3.all (stP f1 PP))) ∧ Below W.heap.size W w' := fun W hW h1 h2 h3 => by
          have e : (!f3.all (stP f1 PP)) = f3.any (fun s => !stP f1 PP s) := by rw [List.all_eq_not_any_not, Bool.not_not]
          rw [e]
          refine anyStmt f3 A3 c3 _ 117 _ (enters_of Try.func117 (by kernel_rfl) rfl) W (Y3.out.here RStmt_stable hW) (by omega) (fun j hj A5 c5 A6 c6 A7 c7 W' hW' hrd => ?_)
          exact impl_isProg1 f0 f1 (.slice A2 f2.length c2) (.slice A3 f3.length c3) f3[j].qKind f3[j].qN f3[j].qEx A5 A6 A7 c5 c6 c7 _ _ PP (some ⟨gpb, 0, none⟩) cp W' wr.heap.size w1.heap.size (hrd.here hW') (Rd.of_own (own_keep h3 hW')) v1 v2 G2.out (h1.below hW') (h2.below hW')
        have Hcl := Lib.hid hcl; clear hcl
        have hbb : ∀ W' : World, Below (wr.alloc (.cells #[.int .i64 f0, .int .i64 f1, .slice A2 f2.length c2, .slice A3 f3.length c3] 59)).heap.size (wr.alloc (.cells #[.int .i64 f0, .int .i64 f1, .slice A2 f2.length c2, .slice A3 f3.length c3] 59)) W' → Below w.heap.size w W' := fun W' h => hB.out.trans (h.mono hB.out.size)
        have Hbb := Lib.hid hbb; clear hbb
        cases ga : f3.all (stP f1 PP)
        · have HF := hide (F4.out (Hfail.out (by rw [Gs.out, ga]; rfl)))
          have Ga := hide ga; clear ga
          go_wp2_with (first
            | (go_at_call 116; refine (Hsh.out).mono ?_; rintro e w5 ⟨rfl, hb5⟩; have HB5 := hide (Hbb.out _ hb5); have HF5 := hide (hFb.out.below hb5); have HP5 := hide (hPp.out.below hb5); have HO5 := hide (own_keep hOw.out hb5); have t3 := HF5.out.cell 3; clear hb5)
            | (go_at_call 83; refine (Hcl.out _ HB5.out HF5.out HP5.out HO5.out).mono ?_; rintro e w6 ⟨rfl, hb6⟩; rw [Ga.out]))
          go_ret
          exact ⟨retB HF.out.symm, HB5.out.trans (hb6.mono HB5.out.size)⟩
        · have HS := hide (Hstep.out (by rw [Gs.out, ga]; rfl))
          have Ga := hide ga; clear ga
          go_wp2_with (first
            | (go_at_call 116; refine (Hsh.out).mono ?_; rintro e w5 ⟨rfl, hb5⟩; have HB5 := hide (Hbb.out _ hb5); have HF5 := hide (hFb.out.below hb5); have HP5 := hide (hPp.out.below hb5); have HO5 := hide (own_keep hOw.out hb5); have HK5 := hide (hKk.out.below hb5); have t3 := HF5.out.cell 3; clear hb5)
            | (go_at_call 83; refine (Hcl.out _ HB5.out HF5.out HP5.out HO5.out).mono ?_; rintro e w6 ⟨rfl, hb6⟩; rw [Ga.out]; have HB6 := hide (HB5.out.trans (hb6.mono HB5.out.size)); have HP6 := hide (HP5.out.below hb6); have HO6 := hide (own_keep HO5.out hb6); have HK6 := hide (HK5.out.below hb6); clear hb6))
          go_roundw
          case rel => exact ⟨k + 1, by omega, by go_num, HS.out, HO6.out, HB6.out, HK6.out, HP6.out⟩
          case measure => simp [intOf]; omega
    · obtain rfl : k = l.length := by omega
      rw [List.take_length] at hall
      have HF := hide (FT.out hall); have Hb := hide hb; clear hall hown hb hkk hpp
      go_wp2
      go_ret
      exact ⟨retB HF.out.symm, Hb.out⟩
theorem impl_GoodProg (cs : List Value) (m : ProgM) (w : World) (hr : RProg w 0 w.heap.size cs m) (hz : szProgN m ≤ 1048576) :
    Calls Try.prog 37 #[.agg cs.toArray] w fun e w' => e = .returned (.bool (progB m.qFuncs)) ∧ Below w.heap.size w w' := by
  have hr0 := hr
  obtain ⟨v0, rfl, h0⟩ := hr
  have hb := (Below.refl w.heap.size w).alloc (Nat.le_refl _) (.cells #[v0] 45)
  have hp := impl_isProg _ m _ (RProg_stable.here hr0 hb) hz
  have Hb := hide hb; have Hp := hide hp; clear hb hp hr0 h0
  go_enter Try.func37, Try.ntmps37
  go_wp2_with (go_at_call 78; refine (Hp.out).mono ?_; rintro e w1 ⟨rfl, hb1⟩)
  go_ret
  exact ⟨rfl, Hb.out.trans (hb1.mono Hb.out.size)⟩
end Go.Proofs.Ytheddnjhkcpmnaa
