
/- slices.IndexFunc, slices.ContainsFunc at []loop.example/g00745/impl.Tok,loop.example/g00745/impl.Tok, of whatever function. No condition. -/
import Derived.Test.YtheddnjhkcpmnaaIn
import Derived.Test.YtheddnjhkcpmnaaChecked
import Derived.Test.YtheddnjhkcpmnaaPg9
set_option linter.unusedSimpArgs false
set_option linter.unusedVariables false
set_option maxRecDepth 100000
namespace Go.Proofs.Ytheddnjhkcpmnaa
open Go.RowKit

set_option maxHeartbeats 1000000 in
theorem ixfTok (A : Option Addr) (n c : Nat) (e0 e1 : Nat → Value) (q : Nat → Bool) (g : Nat) (lb : Array Value) (eg : ∀ args w, (callFunc g args).run Try.prog w = .ok (.enter g args) w) (w : World) (hn : n ≤ 9223372036854775807)
    (hc : ∀ j, j < n → ∃ b o, A = some ⟨b, o, none⟩ ∧ b < w.heap.size ∧ w.cell? ⟨b, o + j * 2, none⟩ = some (e0 j) ∧ w.cell? ⟨b, o + j * 2 + 1, none⟩ = some (e1 j))
    (hp : ∀ j, j < n → ∀ W, Below w.heap.size w W → Calls Try.prog g (#[(.agg #[e0 j, e1 j])] ++ lb) W fun e w' => e = .returned (.bool (q j)) ∧ Below W.heap.size W w') :
    Calls Try.prog 138 #[.slice A n c, .func (.func g) #[] lb] w fun e w' => e = .returned (.int .i64 (ixq q 0 n)) ∧ Below w.heap.size w w' := by
  have Hc := hide hc; have Hp := hide hp; clear hc hp
  go_enter Try.func138, Try.ntmps138
  go_wp2
  go_loopw [8] (fun i wr => ∃ k : Nat, k ≤ n ∧ i = .int .i64 k ∧ ixq q k (n - k) = ixq q 0 n ∧ Below w.heap.size w wr) (fun i _ => n - (intOf i).toNat)
  case atStart => exact ⟨0, by omega, rfl, rfl, Below.refl _ _⟩
  case round =>
    obtain ⟨k, hk, rfl, hix, hb⟩ := hrel
    by_cases hlt : k < n
    · obtain ⟨b, o, rfl, hbB, s0, s1⟩ := Hc.out k hlt
      have hcall := Hp.out k hlt wr hb
      have hs0 := (hb.cell (p := ⟨b, o + k * 2, none⟩) hbB).trans s0
      have hs1 := (hb.cell (p := ⟨b, o + k * 2 + 1, none⟩) hbB).trans s1
      have hy := fun h => ixq_yes (q := q) (n := n) hlt h
      have hn := fun h => ixq_no (q := q) (n := n) hlt h
      rw [hix] at hy hn
      have Hb := hide hb
      clear hb s0 s1 Hc Hp hix
      cases hh : q k
      · have Hn := hide (hn hh); clear hy hn
        rw [hh] at hcall
        have Hcall := hide hcall; clear hcall hh
        go_wp2_with fail
        refine (Hcall.out).mono ?_
        rintro e w2 ⟨rfl, hb2⟩
        go_wp2
        go_roundw
        case rel => exact ⟨k + 1, by omega, by go_num, Hn.out.symm, Hb.out.trans (hb2.mono Hb.out.size)⟩
        case measure => simp [intOf]; omega
      · have Hy := hide (hy hh); clear hy hn
        rw [hh] at hcall
        have Hcall := hide hcall; clear hcall hh
        go_wp2_with fail
        refine (Hcall.out).mono ?_
        rintro e w2 ⟨rfl, hb2⟩
        go_wp2
        go_ret
        exact ⟨retI Hy.out.symm, Hb.out.trans (hb2.mono Hb.out.size)⟩
    · obtain rfl : k = n := by omega
      rw [Nat.sub_self] at hix
      have Hix := hide hix; clear hix
      go_wp2
      go_ret
      exact ⟨retI Hix.out, hb⟩
theorem cfTok (A : Option Addr) (n c : Nat) (e0 e1 : Nat → Value) (q : Nat → Bool) (g : Nat) (lb : Array Value) (eg : ∀ args w, (callFunc g args).run Try.prog w = .ok (.enter g args) w) (w : World) (hn : n ≤ 9223372036854775807)
    (hc : ∀ j, j < n → ∃ b o, A = some ⟨b, o, none⟩ ∧ b < w.heap.size ∧ w.cell? ⟨b, o + j * 2, none⟩ = some (e0 j) ∧ w.cell? ⟨b, o + j * 2 + 1, none⟩ = some (e1 j))
    (hp : ∀ j, j < n → ∀ W, Below w.heap.size w W → Calls Try.prog g (#[(.agg #[e0 j, e1 j])] ++ lb) W fun e w' => e = .returned (.bool (q j)) ∧ Below W.heap.size W w') :
    Calls Try.prog 120 #[.slice A n c, .func (.func g) #[] lb] w fun e w' => e = .returned (.bool (anyq q n)) ∧ Below w.heap.size w w' := by
  have H := hide (ixfTok A n c e0 e1 q g lb eg w hn hc hp); clear hc hp
  go_enter Try.func120, Try.ntmps120
  go_wp2_with fail
  refine (H.out).mono ?_
  rintro e w2 ⟨rfl, hb2⟩
  go_wp2
  go_ret
  exact ⟨rfl, hb2⟩
end Go.Proofs.Ytheddnjhkcpmnaa
set_option linter.unusedSimpArgs false
set_option linter.unusedVariables false
set_option maxRecDepth 100000
namespace Go.Proofs.Ytheddnjhkcpmnaa
open Go.RowKit

theorem any_take_step {α : Type} {p : α → Bool} {l : List α} {k : Nat} (hk : k < l.length) (h1 : (l.take k).any p = false) (h2 : p l[k] = false) : (l.take (k + 1)).any p = false := by
  rw [List.take_succ_eq_append_getElem hk, List.any_append, h1]; simp [h2]
theorem any_true {α : Type} {p : α → Bool} {l : List α} {k : Nat} (hk : k < l.length) (h2 : p l[k] = true) : l.any p = true := by
  rw [List.any_eq_true]; exact ⟨_, List.getElem_mem hk, h2⟩
/-- ContainsFunc over tokens that are read, with what the closure captured -/
theorem anyTokC (v : Value) (l : List P2) (p : P2 → Bool) (g : Nat) (lb : Array Value) (eg : ∀ args w, (callFunc g args).run Try.prog w = .ok (.enter g args) w) (w : World) (hr : Rd w w.heap.size v l.length (pcells l))
    (hp : ∀ o n W, Below w.heap.size w W → Calls Try.prog g (#[.agg #[.int .i64 o, .int .i64 n]] ++ lb) W fun e w' => e = .returned (.bool (p ⟨o, n⟩)) ∧ Below W.heap.size W w') :
    Calls Try.prog 120 #[v, .func (.func g) #[] lb] w fun e w' => e = .returned (.bool (l.any p)) ∧ Below w.heap.size w w' := by
  have hl := hr.long
  obtain ⟨A, c, rfl, hn, hc, hcell⟩ := id hr
  rw [← anyq_list (q := fun j => p (l.getD j ⟨0, 0⟩)) (p := p) (l := l) (fun j hj => by simp [List.getD, List.getElem?_eq_getElem hj])]
  refine cfTok A l.length c (fun j => .int .i64 (l.getD j ⟨0, 0⟩).o) (fun j => .int .i64 (l.getD j ⟨0, 0⟩).n) _ g lb eg w hl (fun j hj => ?_) (fun j hj W hW => hp _ _ W hW)
  obtain ⟨b, o, hA, hbB, hs0, hs1⟩ := hr.two hj
  exact ⟨b, o, hA, hbB, by rw [hs0]; simp [List.getD, List.getElem?_eq_getElem hj], by rw [hs1]; simp [List.getD, List.getElem?_eq_getElem hj]⟩
theorem impl_hasTok1 (o n code : Int) (g : Nat) (w : World) (hlt : g < w.heap.size) (h : w.cell? ⟨g, 0, none⟩ = some (.int .i64 code)) :
    Calls Try.prog 121 #[.agg #[.int .i64 o, .int .i64 n], .pointer (some ⟨g, 0, none⟩)] w fun e w' => e = .returned (.bool (o == code)) ∧ Below w.heap.size w w' := by
  go_enter Try.func121, Try.ntmps121
  go_wp2
  go_ret
  exact ⟨rfl, (Below.refl _ _).alloc (Nat.le_refl _) _⟩
theorem impl_hasTok (v : Value) (l : List P2) (code : Int) (w : World) (hr : Rd w w.heap.size v l.length (pcells l)) :
    Calls Try.prog 85 #[v, .int .i64 code] w fun e w' => e = .returned (.bool (l.any fun t => t.o == code)) ∧ Below w.heap.size w w' := by
  have hb := (Below.refl w.heap.size w).alloc (Nat.le_refl _) (.cells #[.int .i64 code] 3)
  have hk := Bk.new w 3 #[.int .i64 code]
  have hC := anyTokC v l (fun t => t.o == code) 121 #[.pointer (some ⟨w.heap.size, 0, none⟩)] (enters_of Try.func121 (by kernel_rfl) rfl) _ (hr.here hb) (fun o n W hW => impl_hasTok1 o n code w.heap.size W (hk.below hW).lt ((hk.below hW).cell 0))
  have Hb := hide hb; have HC := hide hC; clear hb hC hk hr
  go_enter Try.func85, Try.ntmps85
  go_wp2_with (go_at_call 120; refine (HC.out).mono ?_; rintro e w1 ⟨rfl, hb1⟩)
  go_ret
  exact ⟨rfl, Hb.out.trans (hb1.mono Hb.out.size)⟩
def recS (s : StmtM) : Bool := s.qEx.any fun t => t.o == 10
theorem impl_MayRecover1 (k N : Int) (ex : List P2) (A5 A6 A7 : Option Addr) (c5 c6 c7 n3 n4 : Nat) (w : World) (hex : Rd w w.heap.size (.slice A5 ex.length c5) ex.length (pcells ex)) :
    Calls Try.prog 84 #[.agg #[.int .i64 k, .int .i64 N, .slice A5 ex.length c5, .slice A6 n3 c6, .slice A7 n4 c7]] w fun e w' => e = .returned (.bool (ex.any fun t => t.o == 10)) ∧ Below w.heap.size w w' := by
  have hb := (Below.refl w.heap.size w).alloc (Nat.le_refl _) (.cells #[.int .i64 k, .int .i64 N, .slice A5 ex.length c5, .slice A6 n3 c6, .slice A7 n4 c7] 103)
  have hC := impl_hasTok (.slice A5 ex.length c5) ex 10 _ (hex.here hb)
  have Hb := hide hb; have HC := hide hC; clear hb hC hex
  go_enter Try.func84, Try.ntmps84
  go_wp2_with (go_at_call 85; refine (HC.out).mono ?_; rintro e w1 ⟨rfl, hb1⟩)
  go_ret
  exact ⟨rfl, Hb.out.trans (hb1.mono Hb.out.size)⟩

def mayR (fs : List FuncM) (fn : Int) : Bool := okF fs fn && (fs.getD fn.toNat fn0).qStmts.any recS
set_option maxHeartbeats 1600000 in
theorem impl_MayRecover (cs : List Value) (m : ProgM) (fn : Int) (w : World) (hr : RProg w 0 w.heap.size cs m) (hz : szProgN m ≤ 1048576) :
    Calls Try.prog 32 #[.agg cs.toArray, .int .i64 fn] w fun e w' => e = .returned (.tuple #[.bool (mayR m.qFuncs fn), .bool (okF m.qFuncs fn)]) ∧ Below w.heap.size w w' := by
  have hr0 := hr
  obtain ⟨v0, rfl, h0⟩ := hr
  obtain ⟨l⟩ := m
  dsimp only at *
  obtain ⟨A, c, rfl⟩ := h0.form
  have hll := fs_le hz
  dsimp only at hll
  have hb := (Below.refl w.heap.size w).alloc (Nat.le_refl _) (.cells #[.slice A l.length c] 45)
  have hk := Bk.new w 45 #[.slice A l.length c]
  have hG := impl_isProg _ ⟨l⟩ _ (RProg_stable.here hr0 hb) hz
  rw [← prog_eq] at hG
  have H0 := hide h0; have Hb := hide hb; have Hk := hide hk
  clear hr0 h0 hb hk
  have hf : okF l fn = false → mayR l fn = false := fun h => by unfold mayR; rw [h]; rfl
  have hw := fun w => impl_within fn 0 (l.length - 1) w
  cases hg : progS l
  · have h1 := okF_g (fn := fn) hg
    have h2 := hf h1
    rw [hg] at hG
    have HG := hide hG; have H1 := hide h1; have H2 := hide h2; clear hG hg hf h1 h2 hw
    go_enter Try.func32, Try.ntmps32
    go_wp2_with (go_at_call 78; refine (HG.out).mono ?_; rintro e w1 ⟨rfl, hb1⟩)
    go_ret2
    exact ⟨retBB H2.out.symm H1.out.symm, Hb.out.trans (hb1.mono Hb.out.size)⟩
  rw [hg] at hG
  have HG := hide hG; clear hG
  cases hi : inB fn 0 (l.length - 1)
  · have h1 := okF_i hi
    have h2 := hf h1
    simp only [hi] at hw
    have HW := Lib.hid hw; have H1 := hide h1; have H2 := hide h2; clear hg hf h1 h2 hi hw
    go_enter Try.func32, Try.ntmps32
    go_wp2_with (first
      | (go_at_call 78; refine (HG.out).mono ?_; rintro e w1 ⟨rfl, hb1⟩; have q0 := (Hk.out.below hb1).cell 0)
      | (go_at_call 79; refine (HW.out _).mono ?_; rintro e w2 ⟨rfl, rfl⟩))
    go_ret2
    exact ⟨retBB H2.out.symm H1.out.symm, Hb.out.trans (hb1.mono Hb.out.size)⟩
  have h1 := okF_y hg hi
  obtain ⟨n, rfl, hn⟩ := fs_len hi
  simp only [hi] at hw
  have h2 : mayR l n = l[n].qStmts.any recS := by
    have e : l.getD n fn0 = l[n] := by simp [List.getD, List.getElem?_eq_getElem hn]
    unfold mayR; rw [h1, Int.toNat_natCast, e]; rfl
  obtain ⟨b, o, A2, c2, A3, c3, rfl, hbB, d0, d1, d2, d3, hx⟩ := RFunc_lit H0.out hn
  obtain ⟨_, _, ey, y2, y3⟩ := id hx
  injection ey with _ ey
  injection ey with _ ey
  injection ey with ey1 ey
  injection ey with ey2 _
  subst ey1 ey2
  have HW := Lib.hid hw; have H1 := hide h1; have H2 := hide h2; have D3 := hide d3; have Y3 := hide y3
  clear hw h1 h2 hf hg hi d0 d1 d2 d3 hx y2 y3
  generalize l[n].qStmts = S at *
  have hSl := Y3.out.long
  have hC : ∀ W, Below w.heap.size w W → Calls Try.prog 83 #[.slice A3 S.length c3, .func (.func 84) #[] #[]] W fun e w' => e = .returned (.bool (S.any recS)) ∧ Below W.heap.size W w' := fun W hW =>
    anyStmt S A3 c3 recS 84 #[] (enters_of Try.func84 (by kernel_rfl) rfl) W (Y3.out.here RStmt_stable hW) hSl (fun j hj A5 c5 A6 c6 A7 c7 W' hW' hrd => impl_MayRecover1 _ _ _ A5 A6 A7 c5 c6 c7 _ _ W' (hrd.here hW'))
  have HC := Lib.hid hC; clear hC
  have hnI : (n : Int) < (l.length : Int) := by omega
  have hn0 : (0 : Int) ≤ (n : Int) := by omega
  go_enter Try.func32, Try.ntmps32
  go_wp2_with (first
    | (go_at_call 78; refine (HG.out).mono ?_; rintro e w1 ⟨rfl, hb1⟩; have Hb1 := hide (Hb.out.trans (hb1.mono Hb.out.size)); have q0 := (Hk.out.below hb1).cell 0; have q3 := (Hb1.out.cell (p := ⟨b, o + n * 4 + 3, none⟩) hbB).trans D3.out; clear hb1)
    | (go_at_call 79; refine (HW.out _).mono ?_; rintro e w2 ⟨rfl, rfl⟩)
    | (go_at_call 83; refine (HC.out _ Hb1.out).mono ?_; rintro e w2 ⟨rfl, hb2⟩))
  go_ret2
  exact ⟨retBB H2.out.symm H1.out.symm, Hb1.out.trans (hb2.mono Hb1.out.size)⟩
set_option maxHeartbeats 3200000 in
theorem spec_MayRecover (cs : List Value) (m : ProgM) (fn : Int) (w : World) (hr : RProg w 0 w.heap.size cs m) (hz : szProgN m ≤ 1048576) :
    Calls Try.prog 33 #[.agg cs.toArray, .int .i64 fn] w fun e w' => e = .returned (.tuple #[.bool (mayR m.qFuncs fn), .bool (okF m.qFuncs fn)]) ∧ Below w.heap.size w w' := by
  have hr0 := hr
  obtain ⟨v0, rfl, h0⟩ := hr
  obtain ⟨l⟩ := m
  dsimp only at *
  obtain ⟨A, c, rfl⟩ := h0.form
  have hll := fs_le hz
  dsimp only at hll
  have hb := (Below.refl w.heap.size w).alloc (Nat.le_refl _) (.cells #[.slice A l.length c] 45)
  have hk := Bk.new w 45 #[.slice A l.length c]
  have hG := spec_GoodProg _ ⟨l⟩ _ (RProg_stable.here hr0 hb) hz
  dsimp only at hG
  have H0 := hide h0; have Hb := hide hb; have Hk := hide hk
  clear hr0 h0 hb hk
  have hf : okF l fn = false → mayR l fn = false := fun h => by unfold mayR; rw [h]; rfl
  have hw := fun w => spec_l1In fn 0 (l.length - 1) w
  cases hg : progS l
  · have h1 := okF_g (fn := fn) hg
    have h2 := hf h1
    rw [hg] at hG
    have HG := hide hG; have H1 := hide h1; have H2 := hide h2; clear hG hg hf h1 h2 hw
    go_enter Try.func33, Try.ntmps33
    go_wp2_with (go_at_call 38; refine (HG.out).mono ?_; rintro e w1 ⟨rfl, hb1⟩)
    go_ret2
    exact ⟨retBB H2.out.symm H1.out.symm, Hb.out.trans (hb1.mono Hb.out.size)⟩
  rw [hg] at hG
  have HG := hide hG; clear hG
  cases hi : inB fn 0 (l.length - 1)
  · have h1 := okF_i hi
    have h2 := hf h1
    simp only [hi] at hw
    have HW := Lib.hid hw; have H1 := hide h1; have H2 := hide h2; clear hg hf h1 h2 hi hw
    go_enter Try.func33, Try.ntmps33
    go_wp2_with (first
      | (go_at_call 38; refine (HG.out).mono ?_; rintro e w1 ⟨rfl, hb1⟩; have q0 := (Hk.out.below hb1).cell 0)
      | (go_at_call 81; refine (HW.out _).mono ?_; rintro e w2 ⟨rfl, rfl⟩))
    go_ret2
    exact ⟨retBB H2.out.symm H1.out.symm, Hb.out.trans (hb1.mono Hb.out.size)⟩
  have h1 := okF_y hg hi
  obtain ⟨n, rfl, hn⟩ := fs_len hi
  simp only [hi] at hw
  have h2 : mayR l n = l[n].qStmts.any recS := by
    have e : l.getD n fn0 = l[n] := by simp [List.getD, List.getElem?_eq_getElem hn]
    unfold mayR; rw [h1, Int.toNat_natCast, e]; rfl
  obtain ⟨b, o, A2, c2, A3, c3, rfl, hbB, d0, d1, d2, d3, hx⟩ := RFunc_lit H0.out hn
  obtain ⟨_, _, ey, y2, y3⟩ := id hx
  injection ey with _ ey
  injection ey with _ ey
  injection ey with ey1 ey
  injection ey with ey2 _
  subst ey1 ey2
  have HW := Lib.hid hw; have H1 := hide h1; have H2 := hide h2; have D3 := hide d3; have Y3 := hide y3
  clear hw h1 h2 hf hg hi d0 d1 d2 d3 hx y2 y3
  generalize l[n].qStmts = S at *
  have hSl := Y3.out.long
  have hnI : (n : Int) < (l.length : Int) := by omega
  have hn0 : (0 : Int) ≤ (n : Int) := by omega
  go_enter Try.func33, Try.ntmps33
  go_wp2_with (first
    | (go_at_call 38; refine (HG.out).mono ?_; rintro e w1 ⟨rfl, hb1⟩; have Hb1 := hide (Hb.out.trans (hb1.mono Hb.out.size)); have q0 := (Hk.out.below hb1).cell 0; have q3 := (Hb1.out.cell (p := ⟨b, o + n * 4 + 3, none⟩) hbB).trans D3.out; clear hb1)
    | (go_at_call 81; refine (HW.out _).mono ?_; rintro e w2 ⟨rfl, rfl⟩))
  clear q0 q3
  go_loopw [29] (fun i wr => ∃ k : Nat, k ≤ S.length ∧ i = .int .i64 k ∧ (S.take k).any recS = false ∧ Below w.heap.size w wr) (fun i _ => S.length - (intOf i).toNat)
  case atStart => exact ⟨0, by omega, rfl, by simp, Hb1.out⟩
  case round =>
    obtain ⟨k, hk, rfl, hany, hb⟩ := hrel
    have hbs := hb.size
    by_cases hlt : k < S.length
    · obtain ⟨b5, o5, A5, c5, A6, c6, A7, c7, rfl, hb5, d0, d1, d2, d3, d4, x2, -, -⟩ := RStmt_lit Y3.out hlt
      have e0 := (hb.cell (p := ⟨b5, o5 + k * 5, none⟩) hb5).trans d0
      have e1 := (hb.cell (p := ⟨b5, o5 + k * 5 + 1, none⟩) hb5).trans d1
      have e2 := (hb.cell (p := ⟨b5, o5 + k * 5 + 2, none⟩) hb5).trans d2
      have e3 := (hb.cell (p := ⟨b5, o5 + k * 5 + 3, none⟩) hb5).trans d3
      have e4 := (hb.cell (p := ⟨b5, o5 + k * 5 + 4, none⟩) hb5).trans d4
      have hbw : b5 < wr.heap.size := by omega
      have hstep := fun h => any_take_step (p := recS) hlt hany h
      have hyes := fun h => any_true (p := recS) hlt h
      have hxl := x2.rd.long
      have Hb := hide hb; have X2 := hide x2.rd; have Hstep := hide hstep; have Hyes := hide hyes
      clear hb x2 hstep hyes hany d0 d1 d2 d3 d4
      have hrs : recS S[k] = S[k].qEx.any fun t => t.o == 10 := rfl
      have Hrs := hide hrs; clear hrs
      generalize S[k] = s at *
      obtain ⟨s0, s1, X, s3, s4⟩ := s
      dsimp only at *
      have HB := hide (Hb.out.alloc hbs (.cells #[.int .i64 s0, .int .i64 s1, .slice A5 X.length c5, .slice A6 s3.length c6, .slice A7 s4.length c7] 103))
      go_wp2
      clear e0 e1 e2 e3 e4
      go_loopw [36] (fun j wi => ∃ q : Nat, q ≤ X.length ∧ j = .int .i64 q ∧ (X.take q).any (fun t => t.o == 10) = false ∧ Below w.heap.size w wi) (fun j _ => X.length - (intOf j).toNat)
      case atStart => exact ⟨0, by omega, rfl, by simp, HB.out⟩
      case round =>
        obtain ⟨q, hq, rfl, hqany, hbi⟩ := hrel
        have hbis := hbi.size
        by_cases hqt : q < X.length
        · obtain ⟨b6, o6, rfl, hb6, t0, t1⟩ := X2.out.two hqt
          have u0 := (hbi.cell (p := ⟨b6, o6 + q * 2, none⟩) hb6).trans t0
          have u1 := (hbi.cell (p := ⟨b6, o6 + q * 2 + 1, none⟩) hb6).trans t1
          have hbw6 : b6 < wr.heap.size := by omega
          have hst := fun h => any_take_step (p := fun t : P2 => t.o == 10) hqt hqany h
          have hye := fun h => any_true (p := fun t : P2 => t.o == 10) hqt h
          have Hbi := hide hbi; clear hbi hqany t0 t1
          generalize X[q] = t at *
          obtain ⟨to, tn⟩ := t
          dsimp only at *
          have HBi := hide (Hbi.out.alloc hbis (.cells #[.int .i64 to, .int .i64 tn] 106))
          cases ht : (to == 10)
          · have HP := hide (hst ht); clear hst hye
            go_wp2
            go_roundw
            case rel => exact ⟨q + 1, by omega, by go_num, HP.out, HBi.out⟩
            case measure => simp [intOf]; omega
          · have HF := hide (H2.out.trans (Hyes.out (Hrs.out.trans (hye ht)))); clear hst hye
            go_wp2
            go_ret2
            exact ⟨retBB HF.out.symm H1.out.symm, HBi.out⟩
        · obtain rfl : q = X.length := by omega
          rw [List.take_length] at hqany
          have HS := hide (Hstep.out (Hrs.out.trans hqany)); have Hbi := hide hbi; clear hqany hbi
          go_wp2
          go_roundw
          case rel => exact ⟨k + 1, by omega, by go_num, HS.out, Hbi.out⟩
          case measure => simp [intOf]; omega
    · obtain rfl : k = S.length := by omega
      rw [List.take_length] at hany
      have HF := hide (H2.out.trans hany); have Hb := hide hb; clear hany hb
      go_wp2
      go_ret2
      exact ⟨retBB HF.out.symm H1.out.symm, Hb.out⟩
end Go.Proofs.Ytheddnjhkcpmnaa
