
/- The word of a function that is asked alone; what the closure asks of a statement. No condition. -/
import Derived.Test.YtheddnjhkcpmnaaPg8
import Derived.Test.YtheddnjhkcpmnaaPg7
import Derived.Test.YtheddnjhkcpmnaaPg9
set_option linter.unusedSimpArgs false
set_option linter.unusedVariables false
set_option maxRecDepth 100000
namespace Go.Proofs.Ytheddnjhkcpmnaa
open Go.RowKit

def dig (n j : Nat) : Int := ((n / 3 ^ j % 3 : Nat) : Int)
def digs (n : Nat) : List Int := [dig n 0, dig n 1, dig n 2, dig n 3, dig n 4]
theorem digs_length (n : Nat) : (digs n).length = 5 := rfl
theorem digs_get (n j : Nat) (h : j < (digs n).length) : (digs n)[j] = dig n j := by
  rw [digs_length] at h
  rcases j with _ | _ | _ | _ | _ | j
  · rfl
  · rfl
  · rfl
  · rfl
  · rfl
  · omega
theorem digs_ok (n : Nat) : parOk (digs n) = true := by
  refine parOk_iff.2 ⟨Nat.le_refl _, fun x hx => ?_⟩
  obtain ⟨j, hj, rfl⟩ := List.getElem_of_mem hx
  rw [digs_get n j hj]
  unfold dig
  omega
theorem digs_step {n j : Nat} {xs : List Int} (hj : j < 5) (hl : xs.length = 5) (h : xs.take j = (digs n).take j) : (xs.set j (dig n j)).take (j + 1) = (digs n).take (j + 1) := by
  rw [List.take_succ_eq_append_getElem (show j < (xs.set j (dig n j)).length by rw [List.length_set, hl]; exact hj), List.take_succ_eq_append_getElem (show j < (digs n).length from hj), digs_get n j (show j < (digs n).length from hj), List.getElem_set_self, List.take_set_of_le (Nat.le_refl _), h]
theorem digs_all {n : Nat} {xs : List Int} (hl : xs.length = 5) (h : xs.take 5 = (digs n).take 5) : xs = digs n := by
  have h1 : xs.take 5 = xs := List.take_of_length_le (by omega)
  have h2 : (digs n).take 5 = digs n := List.take_of_length_le (by rw [digs_length]; exact Nat.le_refl _)
  rw [h1, h2] at h; exact h
def aloneB (f : FuncM) : Bool := (List.range 243).any fun n => funcB f (digs n)
theorem alone_yes {f : FuncM} {n : Nat} (hn : n < 243) (h : funcB f (digs n) = true) : aloneB f = true := by
  unfold aloneB; rw [List.any_eq_true]; exact ⟨n, List.mem_range.2 hn, h⟩
theorem alone_no {f : FuncM} (h : ∀ n, n < 243 → funcB f (digs n) = false) : aloneB f = false := by
  unfold aloneB; rw [List.any_eq_false]; exact fun n hn => by rw [h n (List.mem_range.1 hn)]; simp
def loneN (vars : Int) (params : List Int) (k N : Int) (ex : List P2) (n3 n4 : Nat) : Bool := if k = 3 then inB N 0 4 && stmtImpN vars params 3 (-1) ex n3 n4 else stmtImpN vars params k N ex n3 n4
theorem lone_ok {vars : Int} {params : List Int} (hv : 0 ≤ vars ∧ vars ≤ 6) (hp : parOk params = true) (h5 : params.length = 5) {k N : Int} {ex : List P2} {n3 n4 : Nat} : loneN vars params k N ex n3 n4 = stmtOkN vars params k N ex n3 n4 := by
  unfold loneN
  split
  · next h => subst h; rw [← stmt_lone, h5]; rfl
  · next h => exact stmt_eq hv hp h
set_option maxHeartbeats 1600000 in
theorem impl_isLoneFunc1 (a0 vars : Int) (x2 x3 : Value) (k N : Int) (ex : List P2) (A5 A6 A7 : Option Addr) (c5 c6 c7 n3 n4 : Nat) (params : List Int) (Ap : Option Addr) (cp : Nat) (w : World) (gf gp : Nat)
    (hex : Rd w w.heap.size (.slice A5 ex.length c5) ex.length (pcells ex)) (hp : Rd w w.heap.size (.slice Ap params.length cp) params.length (icells .i64 params)) (hv : 0 ≤ vars) (hv2 : vars ≤ 6) (hok : parOk params = true)
    (hf : Bk w gf 59 #[.int .i64 a0, .int .i64 vars, x2, x3]) (hpb : Bk w gp 48 #[.slice Ap params.length cp]) :
    Calls Try.prog 125 #[.agg #[.int .i64 k, .int .i64 N, .slice A5 ex.length c5, .slice A6 n3 c6, .slice A7 n4 c7], .pointer (some ⟨gf, 0, none⟩), .pointer (some ⟨gp, 0, none⟩)] w fun e w' => e = .returned (.bool (!loneN vars params k N ex n3 n4)) ∧ Below w.heap.size w w' := by
  have hgf := hf.lt; have hgp := hpb.lt
  have f0 := hf.cell 0; have f1 := hf.cell 1; have f2 := hf.cell 2; have f3 := hf.cell 3; have p0 := hpb.cell 0
  have hb0 := (Below.refl w.heap.size w).alloc (Nat.le_refl _) (.cells #[.int .i64 k, .int .i64 N, .slice A5 ex.length c5, .slice A6 n3 c6, .slice A7 n4 c7] 103)
  by_cases hk3 : k = 3
  · subst hk3
    have e : loneN vars params 3 N ex n3 n4 = (inB N 0 4 && stmtImpN vars params 3 (-1) ex n3 n4) := rfl
    rw [e]; clear e
    have hw := fun w => impl_within N 0 4 w
    cases hi : inB N 0 4
    · simp only [hi] at hw
      have HW := Lib.hid hw; have Hb0 := hide hb0; clear hw hi hb0 hf hpb hp hex
      go_enter Try.func125, Try.ntmps125
      go_wp2_with (go_at_call 79; refine (HW.out _).mono ?_; rintro e w2 ⟨rfl, rfl⟩)
      go_ret
      exact ⟨rfl, Hb0.out⟩
    · simp only [hi] at hw
      have hb1 := (Below.refl w.heap.size w).alloc (Nat.le_refl _) (.cells #[.int .i64 3, .int .i64 (-1), .slice A5 ex.length c5, .slice A6 n3 c6, .slice A7 n4 c7] 103)
      have hst := impl_isStmt a0 vars x2 x3 3 (-1) ex A5 A6 A7 c5 c6 c7 n3 n4 params (.slice Ap params.length cp) _ (hex.here hb1) (hp.here hb1) hv hv2 hok
      generalize stmtImpN vars params 3 (-1) ex n3 n4 = R at *
      have HW := Lib.hid hw; have Hb0 := hide hb0; have Hb1 := hide hb1; have Hst := hide hst; clear hw hi hb0 hb1 hf hpb hp hex hst hok
      go_enter Try.func125, Try.ntmps125
      go_wp2_with (first
        | (go_at_call 79; refine (HW.out _).mono ?_; rintro e w2 ⟨rfl, rfl⟩)
        | (go_at_call 118; refine (Hst.out).mono ?_; rintro e w3 ⟨rfl, hb3⟩))
      go_ret
      exact ⟨rfl, Hb1.out.trans (hb3.mono Hb1.out.size)⟩
  · have e : loneN vars params k N ex n3 n4 = stmtImpN vars params k N ex n3 n4 := by unfold loneN; rw [if_neg hk3]
    rw [e]; clear e
    have hst := impl_isStmt a0 vars x2 x3 k N ex A5 A6 A7 c5 c6 c7 n3 n4 params (.slice Ap params.length cp) _ (hex.here hb0) (hp.here hb0) hv hv2 hok
    generalize stmtImpN vars params k N ex n3 n4 = R at *
    have b3 : (k == 3) = false := by rw [beq_eq_false_iff_ne]; exact hk3
    have Hb0 := hide hb0; have Hst := hide hst; clear hb0 hf hpb hp hex hst hok hk3
    go_enter Try.func125, Try.ntmps125
    go_wp2_with (go_at_call 118; refine (Hst.out).mono ?_; rintro e w3 ⟨rfl, hb3⟩)
    go_ret
    exact ⟨rfl, Hb0.out.trans (hb3.mono Hb0.out.size)⟩
end Go.Proofs.Ytheddnjhkcpmnaa
set_option linter.unusedSimpArgs false
set_option linter.unusedVariables false
set_option maxRecDepth 100000
namespace Go.Proofs.Ytheddnjhkcpmnaa
open Go.RowKit

set_option maxHeartbeats 3200000 in
theorem impl_isLoneFunc (cs : List Value) (m : FuncM) (w : World) (hr : RFunc w 0 w.heap.size cs m) (hz : szFuncN m ≤ 1048576) :
    Calls Try.prog 91 #[.agg cs.toArray] w fun e w' => e = .returned (.bool (aloneB m)) ∧ Below w.heap.size w w' := by
  have hr0 := hr
  obtain ⟨v2, v3, rfl, h2, h3⟩ := hr
  obtain ⟨m0, m1, body, l⟩ := m
  dsimp only at *
  obtain ⟨A3, c3, rfl⟩ := h3.form
  have hll := h3.long
  have hb0 := (Below.refl w.heap.size w).alloc (Nat.le_refl _) (.cells #[.int .i64 m0, .int .i64 m1, v2, .slice A3 l.length c3] 59)
  have hk0 := Bk.new w 59 #[.int .i64 m0, .int .i64 m1, v2, .slice A3 l.length c3]
  have hsh := impl_isShaped _ ⟨m0, m1, body, l⟩ _ (RFunc_stable.here hr0 hb0) hz
  have hfe := fun p => func_eq ⟨m0, m1, body, l⟩ p
  have hay := fun n hn h => alone_yes (f := ⟨m0, m1, body, l⟩) (n := n) hn h
  have han := fun h => alone_no (f := ⟨m0, m1, body, l⟩) h
  generalize aloneB ⟨m0, m1, body, l⟩ = R at *
  have H3 := hide h3; have Hb0 := hide hb0; have Hk0 := hide hk0
  clear h2 h3 hb0 hk0 hr0
  cases gs : shapedB ⟨m0, m1, body, l⟩
  · rw [gs] at hsh
    have HF := hide (han (fun n _ => by rw [hfe, gs]; rfl))
    have Hsh := hide hsh; clear hsh gs hfe hay han
    go_enter Try.func91, Try.ntmps91
    go_wp2_with (go_at_call 116; refine (Hsh.out).mono ?_; rintro e w1 ⟨rfl, hb1⟩)
    go_ret
    exact ⟨retB HF.out.symm, Hb0.out.trans (hb1.mono Hb0.out.size)⟩
  rw [gs] at hsh
  obtain ⟨v1, v2', v3⟩ := shaped_vars gs
  dsimp only at v1 v2' v3
  have hfe : ∀ p, funcB ⟨m0, m1, body, l⟩ p = l.all (stmtOk m1 p) := fun p => by rw [hfe, gs]; rfl
  have hcl : ∀ (n : Nat) (W : World) (gp : Nat) (Ap : Option Addr) (cp : Nat), Below w.heap.size w W → Bk W w.heap.size 59 #[.int .i64 m0, .int .i64 m1, v2, .slice A3 l.length c3] → Bk W gp 48 #[.slice Ap 5 cp] → Rd W W.heap.size (.slice Ap 5 cp) 5 (icells .i64 (digs n)) →
      Calls Try.prog 83 #[.slice A3 l.length c3, .func (.func 125) #[] #[.pointer (some ⟨w.heap.size, 0, none⟩), .pointer (some ⟨gp, 0, none⟩)]] W fun e w' => e = .returned (.bool (!funcB ⟨m0, m1, body, l⟩ (digs n))) ∧ Below W.heap.size W w' := fun n W gp Ap cp hW h1 h2 hrd => by
    have e : (!funcB ⟨m0, m1, body, l⟩ (digs n)) = l.any (fun s => !stmtOk m1 (digs n) s) := by rw [hfe, List.all_eq_not_any_not, Bool.not_not]
    rw [e]
    refine anyStmt l A3 c3 _ 125 _ (enters_of Try.func125 (by kernel_rfl) rfl) W (H3.out.here RStmt_stable hW) (by omega) (fun j hj A5 c5 A6 c6 A7 c7 W' hW' hrd' => ?_)
    rw [stmtOk_N, ← lone_ok ⟨v1, v2'⟩ (digs_ok n) (digs_length n)]
    exact impl_isLoneFunc1 m0 m1 v2 (.slice A3 l.length c3) l[j].qKind l[j].qN l[j].qEx A5 A6 A7 c5 c6 c7 _ _ (digs n) Ap cp W' w.heap.size gp (hrd'.here hW') (hrd.here hW') v1 v2' (digs_ok n) (h1.below hW') (h2.below hW')
  have Hsh := hide hsh; have Hcl := Lib.hid hcl; have Hay := Lib.hid hay; have Han := Lib.hid han
  clear hsh gs hfe hay han hcl
  generalize hF : (fun n => funcB ⟨m0, m1, body, l⟩ (digs n)) = F at *
  have hF' : ∀ n, funcB ⟨m0, m1, body, l⟩ (digs n) = F n := fun n => by rw [← hF]
  clear hF
  simp only [hF'] at Hcl Hay Han
  clear hF'
  go_enter Try.func91, Try.ntmps91
  go_wp2_with (go_at_call 116; refine (Hsh.out).mono ?_; rintro e w1 ⟨rfl, hb1⟩; have Hb1 := hide (Hb0.out.trans (hb1.mono Hb0.out.size)); have Hk1 := hide (Hk0.out.below hb1); clear hb1)
  go_loopw [9] (fun i wr => ∃ n : Nat, n ≤ 243 ∧ i = .int .i64 n ∧ (∀ q, q < n → F q = false) ∧ Below w.heap.size w wr ∧ Bk wr w.heap.size 59 #[.int .i64 m0, .int .i64 m1, v2, .slice A3 l.length c3]) (fun i _ => 243 - (intOf i).toNat)
  case atStart => exact ⟨0, by omega, rfl, fun q hq => by omega, Hb1.out, Hk1.out⟩
  case round =>
    obtain ⟨n, hn, rfl, hno, hb, hkk⟩ := hrel
    have hbs := hb.size
    have hkkl := hkk.lt
    by_cases hlt : n < 243
    · have Hb := hide hb; have Hkk := hide hkk; have Hno := hide hno
      clear hb hkk hno
      go_wp2_with (at_make; go_must (refine wpList_makeN rfl _ _ _ rfl okI64 5 rfl rfl (by omega) (by unfold maxLen; omega) ?_); intro w2 hown2 hb2; have Hs2 := hide hown2; have Hb2 := hide (Hb.out.trans (hb2.mono Hb.out.size)); have Hk2 := hide (Hkk.out.below hb2); have Hz2 := hide hb2.size; clear hown2 hb2)
      have hs2 := Hs2.out
      rw [made_int] at hs2
      have hs3 := hs2.alloc (.cells #[.slice (some ⟨wr.heap.size, 0, none⟩) 5 5] 48)
      have hb3 := Hb2.out.alloc Hb2.out.size (.cells #[.slice (some ⟨wr.heap.size, 0, none⟩) 5 5] 48)
      have hk3 := Hk2.out.alloc (.cells #[.slice (some ⟨wr.heap.size, 0, none⟩) 5 5] 48)
      have hq3 := Bk.new w2 48 #[.slice (some ⟨wr.heap.size, 0, none⟩) 5 5]
      have hgl : wr.heap.size < w2.heap.size := (hs2.lt _ rfl).2
      have hne1 : w.heap.size ≠ wr.heap.size := by omega
      have hne2 : w2.heap.size ≠ wr.heap.size := by omega
      have hle1 : w.heap.size ≤ wr.heap.size := hbs
      have Hs3 := hide hs3; have Hb3 := hide hb3; have Hk3 := hide hk3; have Hq3 := hide hq3
      clear hs2 hs3 hb3 hk3 hq3
      go_loopw [3, 15] (fun kv jv wi => ∃ (j : Nat) (xs : List Int), j ≤ 5 ∧ jv = .int .i64 j ∧ kv = .int .i64 ((n / 3 ^ j : Nat) : Int) ∧ xs.length = 5 ∧ xs.take j = (digs n).take j ∧ wi.ownsRow wr.heap.size 3 1 (.slice (some ⟨wr.heap.size, 0, none⟩) 5 5) 5 (icells .i64 xs) ∧ Below w.heap.size w wi ∧ Bk wi w.heap.size 59 #[.int .i64 m0, .int .i64 m1, v2, .slice A3 l.length c3] ∧ Bk wi w2.heap.size 48 #[.slice (some ⟨wr.heap.size, 0, none⟩) 5 5]) (fun _ jv _ => 5 - (intOf jv).toNat)
      case atStart => exact ⟨0, List.replicate 5 0, by omega, rfl, by simp, by simp, by simp, Hs3.out, Hb3.out, Hk3.out, Hq3.out⟩
      case round =>
        obtain ⟨j, xs, hj, rfl, rfl, hxl, hxt, hown, hbi, hki, hqi⟩ := hrel
        have q0 := hqi.cell 0
        have hqil := hqi.lt
        by_cases hjt : j < 5
        · have hd : Int.tmod ((n / 3 ^ j : Nat) : Int) 3 = dig n j := rfl
          have hq : Int.tdiv ((n / 3 ^ j : Nat) : Int) 3 = ((n / 3 ^ (j + 1) : Nat) : Int) := by rw [Nat.pow_succ, ← Nat.div_div_eq_div_mul]; rfl
          have hnb : n / 3 ^ j ≤ 243 := Nat.le_trans (Nat.div_le_self _ _) hn
          obtain ⟨u0, hu0⟩ := own_at hown (j := j) (by omega)
          have hz0 := hown.frozenAt j
          have hxs := digs_step hjt hxl hxt
          have Hown := hide hown; have Hbi := hide hbi; have Hki := hide hki; have Hqi := hide hqi; have Hxs := hide hxs; have Hxl := hide hxl
          clear hown hbi hki hqi hxs hxl hxt
          generalize (n / 3 ^ j : Nat) = nq at *
          have hnb2 : n / 3 ^ (j + 1) ≤ 243 := Nat.le_trans (Nat.div_le_self _ _) hn
          have hwr : wrap64 ((n / 3 ^ (j + 1) : Nat) : Int) = ((n / 3 ^ (j + 1) : Nat) : Int) := (fun (q : Nat) (h : q ≤ 243) => (by unfold wrap64; omega : wrap64 (q : Int) = (q : Int))) _ hnb2
          obtain ⟨nr, hnr⟩ : ∃ nr, nr = n / 3 ^ (j + 1) := ⟨_, rfl⟩
          rw [← hnr] at hq hwr hnb2
          have Hnr := hide hnr; have Hwr := hide hwr; clear hnr hwr
          go_wp2
          go_roundw
          case rel =>
            refine ⟨j + 1, xs.set j (dig n j), by omega, by go_num, by rw [Hnr.out], by rw [List.length_set]; exact Hxl.out, Hxs.out, ?_, Hbi.out.setCell hle1 _, Hki.out.far hne1 _ _, Hqi.out.far hne2 _ _⟩
            have := own_set Hown.out j (.int .i64 (dig n j))
            rw [icells_set] at this
            exact this
          case measure => simp [intOf]; omega
        · obtain rfl : j = 5 := by omega
          obtain rfl := digs_all hxl hxt
          have Hown := hide hown; have Hbi := hide hbi; have Hki := hide hki; have Hqi := hide hqi
          have p3 := hki.cell 3
          have hkil := hki.lt
          clear hown hbi hki hqi hxl hxt
          have hC := Hcl.out n _ _ _ _ Hbi.out Hki.out Hqi.out (Rd.of_own Hown.out)
          cases hf : F n
          · rw [hf] at hC
            have HC := hide hC; have HN := hide hf; clear hC hf
            go_wp2_with (go_at_call 83; refine (HC.out).mono ?_; rintro e w6 ⟨rfl, hb6⟩; have HB6 := hide (Hbi.out.trans (hb6.mono Hbi.out.size)); have HK6 := hide (Hki.out.below hb6); clear hb6)
            go_roundw
            case rel => exact ⟨n + 1, by omega, by go_num, fun q hq => by rcases Nat.lt_succ_iff_lt_or_eq.1 hq with h | h; exact Hno.out q h; exact h ▸ HN.out, HB6.out, HK6.out⟩
            case measure => simp [intOf]; omega
          · rw [hf] at hC
            have HC := hide hC; have HF := hide (Hay.out n hlt hf); clear hC hf
            go_wp2_with (go_at_call 83; refine (HC.out).mono ?_; rintro e w6 ⟨rfl, hb6⟩; have HB6 := hide (Hbi.out.trans (hb6.mono Hbi.out.size)); clear hb6)
            go_ret
            exact ⟨retB HF.out.symm, HB6.out⟩
    · obtain rfl : n = 243 := by omega
      have HF := hide (Han.out hno); have Hb := hide hb; clear hno hb hkk
      go_wp2
      go_ret
      exact ⟨retB HF.out.symm, Hb.out⟩
end Go.Proofs.Ytheddnjhkcpmnaa
set_option linter.unusedSimpArgs false
set_option linter.unusedVariables false
set_option maxRecDepth 100000
namespace Go.Proofs.Ytheddnjhkcpmnaa
open Go.RowKit

set_option maxHeartbeats 3200000 in
theorem spec_l3Alone (cs : List Value) (m : FuncM) (w : World) (hr : RFunc w 0 w.heap.size cs m) (hz : szFuncN m ≤ 1048576) :
    Calls Try.prog 94 #[.agg cs.toArray] w fun e w' => e = .returned (.bool (aloneB m)) ∧ Below w.heap.size w w' := by
  have hr0 := hr
  obtain ⟨v2, v3, rfl, h2, h3⟩ := hr
  have hb0 := (Below.refl w.heap.size w).alloc (Nat.le_refl _) (.cells #[.int .i64 m.qParams, .int .i64 m.qVars, v2, v3] 59)
  have hk0 := Bk.new w 59 #[.int .i64 m.qParams, .int .i64 m.qVars, v2, v3]
  have hcl := fun (n : Nat) (W : World) (pv : Value) (hW : Below w.heap.size w W) (hrd : Rd W W.heap.size pv 5 (icells .i64 (digs n))) => spec_l3Func _ m (digs n) pv W (RFunc_stable.here hr0 hW) hrd (by rw [digs_length]; omega) hz
  have hay := fun n hn h => alone_yes (f := m) (n := n) hn h
  have han := fun h => alone_no (f := m) h
  generalize aloneB m = R at *
  have Hb0 := hide hb0; have Hk0 := hide hk0
  clear h2 h3 hb0 hk0 hr0
  have Hcl := Lib.hid hcl; have Hay := Lib.hid hay; have Han := Lib.hid han
  clear hay han hcl
  generalize hF : (fun n => funcB m (digs n)) = F at *
  have hF' : ∀ n, funcB m (digs n) = F n := fun n => by rw [← hF]
  clear hF
  simp only [hF'] at Hcl Hay Han
  clear hF' hz
  generalize m.qParams = m0 at *
  generalize m.qVars = m1 at *
  go_enter Try.func94, Try.ntmps94
  go_wp2_with (at_make; go_must (refine wpList_makeN rfl _ _ _ rfl okI64 5 rfl rfl (by omega) (by unfold maxLen; omega) ?_); intro w2 hown2 hb2; have Hs2 := hide hown2; have Hb2 := hide (Hb0.out.trans (hb2.mono Hb0.out.size)); have Hk2 := hide (Hk0.out.below hb2); clear hown2 hb2)
  have hs2 := Hs2.out
  rw [made_int, World.size_alloc] at hs2
  have Hs3 := hide hs2
  clear hs2
  go_loopw [4] (fun i wr => ∃ (n : Nat) (xs : List Int), n ≤ 243 ∧ i = .int .i64 n ∧ (∀ q, q < n → F q = false) ∧ xs.length = 5 ∧ wr.ownsRow (w.heap.size + 1) 3 1 (.slice (some ⟨w.heap.size + 1, 0, none⟩) 5 5) 5 (icells .i64 xs) ∧ Below w.heap.size w wr ∧ Bk wr w.heap.size 59 #[.int .i64 m0, .int .i64 m1, v2, v3]) (fun i _ => 243 - (intOf i).toNat)
  case atStart => exact ⟨0, List.replicate 5 0, by omega, rfl, fun q hq => by omega, by simp, Hs3.out, Hb2.out, Hk2.out⟩
  case round =>
    obtain ⟨n, xs, hn, rfl, hno, hxl, hown, hb, hkk⟩ := hrel
    have hbs := hb.size
    by_cases hlt : n < 243
    · have Hb := hide hb; have Hkk := hide hkk; have Hno := hide hno; have Hown := hide hown; have Hxl := hide hxl
      have hle1 : w.heap.size ≤ w.heap.size + 1 := by omega
      have hne1 : w.heap.size ≠ w.heap.size + 1 := by omega
      clear hb hkk hno hown hxl
      go_wp2
      go_loopw [5, 15] (fun kv jv wi => ∃ (j : Nat) (xs : List Int), j ≤ 5 ∧ jv = .int .i64 j ∧ kv = .int .i64 ((n / 3 ^ j : Nat) : Int) ∧ xs.length = 5 ∧ xs.take j = (digs n).take j ∧ wi.ownsRow (w.heap.size + 1) 3 1 (.slice (some ⟨w.heap.size + 1, 0, none⟩) 5 5) 5 (icells .i64 xs) ∧ Below w.heap.size w wi ∧ Bk wi w.heap.size 59 #[.int .i64 m0, .int .i64 m1, v2, v3]) (fun _ jv _ => 5 - (intOf jv).toNat)
      case atStart => exact ⟨0, xs, by omega, rfl, by simp, Hxl.out, by simp, Hown.out, Hb.out, Hkk.out⟩
      case round =>
        obtain ⟨j, xs, hj, rfl, rfl, hxl, hxt, hown, hbi, hki⟩ := hrel
        by_cases hjt : j < 5
        · have hd : Int.tmod ((n / 3 ^ j : Nat) : Int) 3 = dig n j := rfl
          have hq : Int.tdiv ((n / 3 ^ j : Nat) : Int) 3 = ((n / 3 ^ (j + 1) : Nat) : Int) := by rw [Nat.pow_succ, ← Nat.div_div_eq_div_mul]; rfl
          have hnb : n / 3 ^ j ≤ 243 := Nat.le_trans (Nat.div_le_self _ _) hn
          obtain ⟨u0, hu0⟩ := own_at hown (j := j) (by omega)
          have hz0 := hown.frozenAt j
          have hgl := (hown.lt _ rfl).2
          have hxs := digs_step hjt hxl hxt
          have Hown := hide hown; have Hbi := hide hbi; have Hki := hide hki; have Hxs := hide hxs; have Hxl := hide hxl
          clear hown hbi hki hxs hxl hxt
          generalize (n / 3 ^ j : Nat) = nq at *
          have hnb2 : n / 3 ^ (j + 1) ≤ 243 := Nat.le_trans (Nat.div_le_self _ _) hn
          have hwr : wrap64 ((n / 3 ^ (j + 1) : Nat) : Int) = ((n / 3 ^ (j + 1) : Nat) : Int) := (fun (q : Nat) (h : q ≤ 243) => (by unfold wrap64; omega : wrap64 (q : Int) = (q : Int))) _ hnb2
          obtain ⟨nr, hnr⟩ : ∃ nr, nr = n / 3 ^ (j + 1) := ⟨_, rfl⟩
          rw [← hnr] at hq hwr hnb2
          have Hnr := hide hnr; have Hwr := hide hwr; clear hnr hwr
          go_wp2
          go_roundw
          case rel =>
            refine ⟨j + 1, xs.set j (dig n j), by omega, by go_num, by rw [Hnr.out], by rw [List.length_set]; exact Hxl.out, Hxs.out, ?_, Hbi.out.setCell hle1 _, Hki.out.far hne1 _ _⟩
            have := own_set Hown.out j (.int .i64 (dig n j))
            rw [icells_set] at this
            exact this
          case measure => simp [intOf]; omega
        · obtain rfl : j = 5 := by omega
          obtain rfl := digs_all hxl hxt
          have Hown := hide hown; have Hbi := hide hbi; have Hki := hide hki
          have p0 := hki.cell 0; have p1 := hki.cell 1; have p2 := hki.cell 2; have p3 := hki.cell 3
          have hkil := hki.lt
          clear hown hbi hki hxl hxt
          have hC := Hcl.out n _ _ Hbi.out (Rd.of_own Hown.out)
          cases hf : F n
          · rw [hf] at hC
            have HC := hide hC; have HN := hide hf; clear hC hf
            go_wp2_with (go_at_call 89; refine (HC.out).mono ?_; rintro e w6 ⟨rfl, hb6⟩; have HB6 := hide (Hbi.out.trans (hb6.mono Hbi.out.size)); have HK6 := hide (Hki.out.below hb6); have HO6 := hide (own_keep Hown.out hb6); clear hb6)
            go_roundw
            case rel => exact ⟨n + 1, _, by omega, by go_num, fun q hq => by rcases Nat.lt_succ_iff_lt_or_eq.1 hq with h | h; exact Hno.out q h; exact h ▸ HN.out, digs_length n, HO6.out, HB6.out, HK6.out⟩
            case measure => simp [intOf]; omega
          · rw [hf] at hC
            have HC := hide hC; have HF := hide (Hay.out n hlt hf); clear hC hf
            go_wp2_with (go_at_call 89; refine (HC.out).mono ?_; rintro e w6 ⟨rfl, hb6⟩; have HB6 := hide (Hbi.out.trans (hb6.mono Hbi.out.size)); clear hb6)
            go_ret
            exact ⟨retB HF.out.symm, HB6.out⟩
    · obtain rfl : n = 243 := by omega
      have HF := hide (Han.out hno); have Hb := hide hb; clear hno hb hkk hown
      go_wp2
      go_ret
      exact ⟨retB HF.out.symm, Hb.out⟩
end Go.Proofs.Ytheddnjhkcpmnaa
set_option linter.unusedSimpArgs false
set_option linter.unusedVariables false
set_option maxRecDepth 100000
namespace Go.Proofs.Ytheddnjhkcpmnaa
open Go.RowKit

theorem alone_sh {f : FuncM} (h : aloneB f = true) : shapedB f = true := by
  unfold aloneB at h
  rw [List.any_eq_true] at h
  obtain ⟨n, _, h⟩ := h
  rw [func_eq, Bool.and_eq_true] at h
  exact h.1
def sitR (f : FuncM) : List Int := if aloneB f then sitesF 0 f.qStmts else []
def ordR (f : FuncM) : List Int := if aloneB f then ordI f.qStmts f.qBody else []
theorem sitR_length (f : FuncM) : (sitR f).length ≤ 1048576 := by
  unfold sitR; split
  · next h => have := (shaped_vars (alone_sh h)).2.2; have := sitesF_length f.qStmts 0; omega
  · simp
/-- what the walk of the order wants -/
theorem shaped_ord {f : FuncM} (h : shapedB f = true) : latB f.qStmts.length 0 f.qStmts = true ∧ f.qStmts.length ≤ 16 ∧ (∀ x ∈ f.qBody, 0 ≤ x ∧ x < f.qStmts.length ∧ f.qStmts.length ≤ x + (f.qStmts.length : Nat)) ∧ ordI f.qStmts f.qBody = intL (List.range f.qStmts.length) := by
  unfold shapedB at h
  simp only [Bool.and_eq_true, decide_eq_true_eq] at h
  obtain ⟨⟨-, -, h16, -⟩, hlat, -, hin, ho, -⟩ := h
  exact ⟨hlat, h16, fun x hx => by have := (inAll_iff.1 hin) x hx; omega, ho⟩
theorem ordR_length (f : FuncM) : (ordR f).length ≤ 1048576 := by
  unfold ordR; split
  · next h => obtain ⟨_, h16, _, ho⟩ := shaped_ord (alone_sh h); rw [ho, intL_length, List.length_range]; omega
  · simp
set_option maxHeartbeats 1600000 in
theorem spec_call_SitesOf (cs : List Value) (m : FuncM) (w : World) (hr : RFunc w 0 w.heap.size cs m) (hz : szFuncN m ≤ 1048576) :
    Calls Try.prog 42 #[.agg cs.toArray] w fun e w' => ∃ v, e = .returned (.tuple #[v, .bool (aloneB m)]) ∧ w'.ownsRow w.heap.size 3 1 v (sitR m).length (icells .i64 (sitR m)) ∧ Below w.heap.size w w' := by
  have hr0 := hr
  obtain ⟨v2, v3, rfl, h2, h3⟩ := hr
  have hb := (Below.refl w.heap.size w).alloc (Nat.le_refl _) (.cells #[.int .i64 m.qParams, .int .i64 m.qVars, v2, v3] 59)
  have hk := Bk.new w 59 #[.int .i64 m.qParams, .int .i64 m.qVars, v2, v3]
  have hG := spec_l3Alone _ m _ (RFunc_stable.here hr0 hb) hz
  have hR : aloneB m = true → sitR m = sitesF 0 m.qStmts := fun h => by unfold sitR; rw [h]; rfl
  have hR' : aloneB m = false → sitR m = [] := fun h => by unfold sitR; rw [h]; rfl
  have Hb := hide hb; have Hk := hide hk
  cases hg : aloneB m
  · rw [hg] at hG
    have e := hR' hg
    generalize sitR m = L at *
    subst e
    have HG := hide hG; clear hG hg hR hR' hb hk h2 h3 hr0
    go_enter Try.func42, Try.ntmps42
    go_wp2_with (go_at_call 94; refine (HG.out).mono ?_; rintro e w1 ⟨rfl, hb1⟩)
    go_ret2
    exact ⟨_, rfl, World.ownsRow_nil _ _ _ _, Hb.out.trans (hb1.mono Hb.out.size)⟩
  · have hP := fun W (hW : Below w.heap.size w W) => spec_l3Sites _ m W (RFunc_stable.here hr0 hW) (shaped_ord (alone_sh hg)).2.1
    rw [hg] at hG
    have e := hR hg
    generalize sitesF 0 m.qStmts = L2 at *
    generalize sitR m = L at *
    subst e
    have HG := hide hG; have HP := Lib.hid hP; clear hG hg hR hR' hP hb hk h2 h3 hr0
    go_enter Try.func42, Try.ntmps42
    go_wp2_with (first
      | (go_at_call 94; refine (HG.out).mono ?_; rintro e w1 ⟨rfl, hb1⟩; have Hb1 := hide (Hb.out.trans (hb1.mono Hb.out.size)); have hk1 := Hk.out.below hb1; have hkl := hk1.lt; have q0 := hk1.cell 0; have q1 := hk1.cell 1; have q2 := hk1.cell 2; have q3 := hk1.cell 3; have HC := hide (HP.out _ Hb1.out); clear hb1 hk1)
      | (go_at_call 90; refine (HC.out).mono ?_; rintro e w2 ⟨v, rfl, hown, hb2⟩))
    go_ret2
    exact ⟨_, rfl, own_base hown Hb1.out.size, Hb1.out.trans (hb2.mono Hb1.out.size)⟩
set_option maxHeartbeats 1600000 in
theorem impl_call_SitesOf (cs : List Value) (m : FuncM) (w : World) (hr : RFunc w 0 w.heap.size cs m) (hz : szFuncN m ≤ 1048576) :
    Calls Try.prog 40 #[.agg cs.toArray] w fun e w' => ∃ v, e = .returned (.tuple #[v, .bool (aloneB m)]) ∧ w'.ownsRow w.heap.size 3 1 v (sitR m).length (icells .i64 (sitR m)) ∧ Below w.heap.size w w' := by
  have hr0 := hr
  obtain ⟨v2, v3, rfl, h2, h3⟩ := hr
  have hb := (Below.refl w.heap.size w).alloc (Nat.le_refl _) (.cells #[.int .i64 m.qParams, .int .i64 m.qVars, v2, v3] 59)
  have hk := Bk.new w 59 #[.int .i64 m.qParams, .int .i64 m.qVars, v2, v3]
  have hG := impl_isLoneFunc _ m _ (RFunc_stable.here hr0 hb) hz
  have hR : aloneB m = true → sitR m = sitesF 0 m.qStmts := fun h => by unfold sitR; rw [h]; rfl
  have hR' : aloneB m = false → sitR m = [] := fun h => by unfold sitR; rw [h]; rfl
  have Hb := hide hb; have Hk := hide hk
  cases hg : aloneB m
  · rw [hg] at hG
    have e := hR' hg
    generalize sitR m = L at *
    subst e
    have HG := hide hG; clear hG hg hR hR' hb hk h2 h3 hr0
    go_enter Try.func40, Try.ntmps40
    go_wp2_with (go_at_call 91; refine (HG.out).mono ?_; rintro e w1 ⟨rfl, hb1⟩)
    go_ret2
    exact ⟨_, rfl, World.ownsRow_nil _ _ _ _, Hb.out.trans (hb1.mono Hb.out.size)⟩
  · have hP := fun W (hW : Below w.heap.size w W) => impl_sitesOf _ m W (RFunc_stable.here hr0 hW) (shaped_ord (alone_sh hg)).2.1
    rw [hg] at hG
    have e := hR hg
    generalize sitesF 0 m.qStmts = L2 at *
    generalize sitR m = L at *
    subst e
    have HG := hide hG; have HP := Lib.hid hP; clear hG hg hR hR' hP hb hk h2 h3 hr0
    go_enter Try.func40, Try.ntmps40
    go_wp2_with (first
      | (go_at_call 91; refine (HG.out).mono ?_; rintro e w1 ⟨rfl, hb1⟩; have Hb1 := hide (Hb.out.trans (hb1.mono Hb.out.size)); have hk1 := Hk.out.below hb1; have hkl := hk1.lt; have q0 := hk1.cell 0; have q1 := hk1.cell 1; have q2 := hk1.cell 2; have q3 := hk1.cell 3; have HC := hide (HP.out _ Hb1.out); clear hb1 hk1)
      | (go_at_call 93; refine (HC.out).mono ?_; rintro e w2 ⟨v, rfl, hown, hb2⟩))
    go_ret2
    exact ⟨_, rfl, own_base hown Hb1.out.size, Hb1.out.trans (hb2.mono Hb1.out.size)⟩
set_option maxHeartbeats 1600000 in
theorem spec_call_OrderOf (cs : List Value) (m : FuncM) (w : World) (hr : RFunc w 0 w.heap.size cs m) (hz : szFuncN m ≤ 1048576) :
    Calls Try.prog 43 #[.agg cs.toArray] w fun e w' => ∃ v, e = .returned (.tuple #[v, .bool (aloneB m)]) ∧ w'.ownsRow w.heap.size 3 1 v (ordR m).length (icells .i64 (ordR m)) ∧ Below w.heap.size w w' := by
  have hr0 := hr
  obtain ⟨v2, v3, rfl, h2, h3⟩ := hr
  have hb := (Below.refl w.heap.size w).alloc (Nat.le_refl _) (.cells #[.int .i64 m.qParams, .int .i64 m.qVars, v2, v3] 59)
  have hk := Bk.new w 59 #[.int .i64 m.qParams, .int .i64 m.qVars, v2, v3]
  have hG := spec_l3Alone _ m _ (RFunc_stable.here hr0 hb) hz
  have hR : aloneB m = true → ordR m = ordI m.qStmts m.qBody := fun h => by unfold ordR; rw [h]; rfl
  have hR' : aloneB m = false → ordR m = [] := fun h => by unfold ordR; rw [h]; rfl
  have Hb := hide hb; have Hk := hide hk
  cases hg : aloneB m
  · rw [hg] at hG
    have e := hR' hg
    generalize ordR m = L at *
    subst e
    have HG := hide hG; clear hG hg hR hR' hb hk h2 h3 hr0
    go_enter Try.func43, Try.ntmps43
    go_wp2_with (go_at_call 94; refine (HG.out).mono ?_; rintro e w1 ⟨rfl, hb1⟩)
    go_ret2
    exact ⟨_, rfl, World.ownsRow_nil _ _ _ _, Hb.out.trans (hb1.mono Hb.out.size)⟩
  · obtain ⟨hlat, h16, hbin, ho⟩ := shaped_ord (alone_sh hg)
    have hlen : (ordI m.qStmts m.qBody).length ≤ 16 := by rw [ho, intL_length, List.length_range]; exact h16
    have hlen2 : (ordN (kidsOf m.qStmts) m.qStmts.length (natL m.qBody)).length ≤ 2000000 := by have h := hlen; unfold ordI at h; rw [intL_length] at h; omega
    have hP : ∀ W (hW : Below w.heap.size w W), Calls Try.prog 95 #[.agg #[.int .i64 m.qParams, .int .i64 m.qVars, v2, v3], v2] W fun e w' => ∃ v', e = .returned v' ∧ w'.ownsRow W.heap.size 3 1 v' (ordI m.qStmts m.qBody).length (icells .i64 (ordI m.qStmts m.qBody)) ∧ Below W.heap.size W w' := fun W hW =>
      spec_l3Order m.qParams m.qVars m.qBody m.qStmts hlat h16 m.qStmts.length m.qBody v2 W _ (RFunc_stable.here hr0 hW) (h2.rd.here hW) hbin hlen2
    rw [hg] at hG
    have e := hR hg
    generalize ordI m.qStmts m.qBody = L2 at *
    generalize ordR m = L at *
    subst e
    have HG := hide hG; have HP := Lib.hid hP; clear hG hg hR hR' hP hb hk h2 h3 hr0 hbin hlat ho
    go_enter Try.func43, Try.ntmps43
    go_wp2_with (first
      | (go_at_call 94; refine (HG.out).mono ?_; rintro e w1 ⟨rfl, hb1⟩; have Hb1 := hide (Hb.out.trans (hb1.mono Hb.out.size)); have hk1 := Hk.out.below hb1; have hkl := hk1.lt; have q0 := hk1.cell 0; have q1 := hk1.cell 1; have q2 := hk1.cell 2; have q3 := hk1.cell 3; have HC := hide (HP.out _ Hb1.out); clear hb1 hk1)
      | (go_at_call 95; refine (HC.out).mono ?_; rintro e w2 ⟨v, rfl, hown, hb2⟩))
    go_ret2
    exact ⟨_, rfl, own_base hown Hb1.out.size, Hb1.out.trans (hb2.mono Hb1.out.size)⟩
set_option maxHeartbeats 1600000 in
theorem impl_call_OrderOf (cs : List Value) (m : FuncM) (w : World) (hr : RFunc w 0 w.heap.size cs m) (hz : szFuncN m ≤ 1048576) :
    Calls Try.prog 39 #[.agg cs.toArray] w fun e w' => ∃ v, e = .returned (.tuple #[v, .bool (aloneB m)]) ∧ w'.ownsRow w.heap.size 3 1 v (ordR m).length (icells .i64 (ordR m)) ∧ Below w.heap.size w w' := by
  have hr0 := hr
  obtain ⟨v2, v3, rfl, h2, h3⟩ := hr
  have hb := (Below.refl w.heap.size w).alloc (Nat.le_refl _) (.cells #[.int .i64 m.qParams, .int .i64 m.qVars, v2, v3] 59)
  have hk := Bk.new w 59 #[.int .i64 m.qParams, .int .i64 m.qVars, v2, v3]
  have hG := impl_isLoneFunc _ m _ (RFunc_stable.here hr0 hb) hz
  have hR : aloneB m = true → ordR m = ordI m.qStmts m.qBody := fun h => by unfold ordR; rw [h]; rfl
  have hR' : aloneB m = false → ordR m = [] := fun h => by unfold ordR; rw [h]; rfl
  have Hb := hide hb; have Hk := hide hk
  cases hg : aloneB m
  · rw [hg] at hG
    have e := hR' hg
    generalize ordR m = L at *
    subst e
    have HG := hide hG; clear hG hg hR hR' hb hk h2 h3 hr0
    go_enter Try.func39, Try.ntmps39
    go_wp2_with (go_at_call 91; refine (HG.out).mono ?_; rintro e w1 ⟨rfl, hb1⟩)
    go_ret2
    exact ⟨_, rfl, World.ownsRow_nil _ _ _ _, Hb.out.trans (hb1.mono Hb.out.size)⟩
  · obtain ⟨hlat, h16, hbin, ho⟩ := shaped_ord (alone_sh hg)
    have hlen : (ordI m.qStmts m.qBody).length ≤ 16 := by rw [ho, intL_length, List.length_range]; exact h16
    have hlen2 : (ordN (kidsOf m.qStmts) m.qStmts.length (natL m.qBody)).length ≤ 2000000 := by have h := hlen; unfold ordI at h; rw [intL_length] at h; omega
    have hP : ∀ W (hW : Below w.heap.size w W), Calls Try.prog 92 #[.agg #[.int .i64 m.qParams, .int .i64 m.qVars, v2, v3], v2, .slice none 0 0] W fun e w' => ∃ v', e = .returned v' ∧ w'.ownsRow W.heap.size 3 1 v' (ordI m.qStmts m.qBody).length (icells .i64 (ordI m.qStmts m.qBody)) ∧ Below W.heap.size W w' := fun W hW => by
      refine (impl_orderOf m.qParams m.qVars m.qBody m.qStmts hlat h16 m.qStmts.length m.qBody [] v2 (.slice none 0 0) W W.heap.size _ (RFunc_stable.here hr0 hW) (Nat.le_refl _) (h2.rd.here hW) (World.ownsRow_nil _ _ _ _) hbin (by simp only [List.length_nil, Nat.zero_add]; exact hlen2)).mono ?_
      rintro e w' ⟨v', rfl, ho', hg'⟩
      exact ⟨v', rfl, ho', hg'.toBelow (World.ownsRow_nil _ W.heap.size 3 1) (Nat.le_refl _)⟩
    rw [hg] at hG
    have e := hR hg
    generalize ordI m.qStmts m.qBody = L2 at *
    generalize ordR m = L at *
    subst e
    have HG := hide hG; have HP := Lib.hid hP; clear hG hg hR hR' hP hb hk h2 h3 hr0 hbin hlat ho
    go_enter Try.func39, Try.ntmps39
    go_wp2_with (first
      | (go_at_call 91; refine (HG.out).mono ?_; rintro e w1 ⟨rfl, hb1⟩; have Hb1 := hide (Hb.out.trans (hb1.mono Hb.out.size)); have hk1 := Hk.out.below hb1; have hkl := hk1.lt; have q0 := hk1.cell 0; have q1 := hk1.cell 1; have q2 := hk1.cell 2; have q3 := hk1.cell 3; have HC := hide (HP.out _ Hb1.out); clear hb1 hk1)
      | (go_at_call 92; refine (HC.out).mono ?_; rintro e w2 ⟨v, rfl, hown, hb2⟩))
    go_ret2
    exact ⟨_, rfl, own_base hown Hb1.out.size, Hb1.out.trans (hb2.mono Hb1.out.size)⟩
end Go.Proofs.Ytheddnjhkcpmnaa
set_option linter.unusedSimpArgs false
set_option linter.unusedVariables false
set_option maxRecDepth 100000
namespace Go.Proofs.Ytheddnjhkcpmnaa
open Go.RowKit

theorem inB_more {n lo hi hi' : Int} (h : inB n lo hi = true) (hh : hi ≤ hi') : inB n lo hi' = true := by rw [inB_iff] at *; omega
theorem tokOk_more {vars a b : Int} {t : P2} (h : tokOk vars a t = true) (hab : a ≤ b) : tokOk vars b t = true := by
  unfold tokOk at *
  split
  · next h1 => rw [if_pos h1] at h; exact h
  · next h1 =>
    rw [if_neg h1] at h
    split
    · next h2 => rw [if_pos h2] at h; exact h
    · next h2 =>
      rw [if_neg h2] at h
      split
      · next h3 => rw [if_pos h3] at h; exact inB_more h (by omega)
      · next h3 => rw [if_neg h3] at h; exact h
theorem need_more {vars : Int} {params zs : List Int} {t : P2} (h : tokOk vars params.length t = true) : need (params ++ zs) t = need params t := by
  unfold need
  split
  · next h1 =>
    have : inB t.n 0 (params.length - 1) = true := by
      unfold tokOk at h
      rw [if_neg (by omega), if_neg (by omega), if_pos h1] at h; exact h
    rw [inB_iff] at this
    have hk : t.n.toNat < params.length := by omega
    simp only [List.getD]
    rw [List.getElem?_append_left hk]
  · rfl
theorem runE_more {vars : Int} {params zs : List Int} : ∀ (l : List P2) (c h : Int) (r : Int × Int), runE vars params l c h = some r → runE vars (params ++ zs) l c h = some r := by
  intro l
  induction l with
  | nil => intro c h r e; exact e
  | cons t l ih =>
    intro c h r e
    simp only [runE] at *
    by_cases h1 : tokOk vars params.length t = true ∧ need params t ≤ c
    · rw [if_pos h1] at e
      have hn := need_more (zs := zs) h1.1
      rw [if_pos ⟨tokOk_more h1.1 (by simp; omega), by rw [hn]; exact h1.2⟩, hn]
      exact ih _ _ _ e
    · rw [if_neg h1] at e; cases e
theorem highOf_more {vars : Int} {params zs : List Int} {e : List P2} (h : 0 < highOf vars params e) : highOf vars (params ++ zs) e = highOf vars params e := by
  unfold highOf at *
  split
  · next h1 =>
    rw [if_pos h1] at h
    rcases hr : runE vars params e 0 0 with _ | r
    · rw [hr] at h; simp at h
    · rw [runE_more _ _ _ _ hr]
  · rfl
theorem goodExpr_more {e : List P2} {vars : Int} {params zs : List Int} (h : goodExpr e vars params = true) (hp : parOk (params ++ zs) = true) : goodExpr e vars (params ++ zs) = true := by
  unfold goodExpr at *
  simp only [Bool.and_eq_true, decide_eq_true_eq] at *
  exact ⟨h.1, hp, by rw [highOf_more h.2.2]; exact h.2.2⟩
theorem stmtOk_more {vars : Int} {params zs : List Int} {s : StmtM} (h : stmtOk vars params s = true) (hp : parOk (params ++ zs) = true) : stmtOk vars (params ++ zs) s = true := by
  unfold stmtOk at *
  split
  · next h1 =>
    rw [if_pos h1] at h; simp only [Bool.and_eq_true] at *
    exact ⟨goodExpr_more h.1 hp, h.2⟩
  next h1 =>
  rw [if_neg h1] at h
  split
  · next h2 =>
    rw [if_pos h2] at h; simp only [Bool.and_eq_true] at *
    exact ⟨goodExpr_more h.1 hp, h.2⟩
  next h2 =>
  rw [if_neg h2] at h
  split
  · next h3 =>
    rw [if_pos h3] at h; simp only [Bool.and_eq_true] at *
    exact ⟨h.1, inB_more h.2.1 (by simp; omega), h.2.2⟩
  next h3 =>
  rw [if_neg h3] at h
  split
  · next h4 => rw [if_pos h4] at h; exact h
  next h4 =>
  rw [if_neg h4] at h
  split
  · next h5 =>
    rw [if_pos h5] at h; simp only [Bool.and_eq_true] at *
    exact ⟨goodExpr_more h.1 hp, h.2⟩
  next h5 =>
  rw [if_neg h5] at h
  split
  · next h6 =>
    rw [if_pos h6] at h; simp only [Bool.and_eq_true] at *
    exact ⟨goodExpr_more h.1 hp, h.2⟩
  · next h6 => rw [if_neg h6] at h; cases h
theorem funcB_more {f : FuncM} {params zs : List Int} (h : funcB f params = true) (hp : parOk (params ++ zs) = true) : funcB f (params ++ zs) = true := by
  unfold funcB at *
  simp only [Bool.and_eq_true, List.all_eq_true] at *
  exact ⟨h.1, h.2.1, fun s hs => ⟨stmtOk_more (h.2.2 s hs).1 hp, (h.2.2 s hs).2⟩⟩
theorem digs_of {l : List Int} (hl : l.length = 5) (hp : parOk l = true) : ∃ n, n < 243 ∧ digs n = l := by
  obtain ⟨_, h2⟩ := parOk_iff.1 hp
  match l, hl with
  | [a, b, c, d, e], _ =>
    have ha := h2 a (by simp); have hb := h2 b (by simp); have hc := h2 c (by simp); have hd := h2 d (by simp); have he := h2 e (by simp)
    refine ⟨a.toNat + 3 * b.toNat + 9 * c.toNat + 27 * d.toNat + 81 * e.toNat, by omega, ?_⟩
    unfold digs dig
    simp only [Nat.pow_zero, Nat.pow_one, Nat.div_one, show (3 : Nat) ^ 2 = 9 from rfl, show (3 : Nat) ^ 3 = 27 from rfl, show (3 : Nat) ^ 4 = 81 from rfl]
    congr 1
    · omega
    congr 1
    · omega
    congr 1
    · omega
    congr 1
    · omega
    congr 1
    omega
theorem parOk_fill {l : List Int} (h : parOk l = true) : parOk (l ++ List.replicate (5 - l.length) 0) = true := by
  obtain ⟨h1, h2⟩ := parOk_iff.1 h
  refine parOk_iff.2 ⟨by simp; omega, fun n hn => ?_⟩
  rcases List.mem_append.1 hn with hn | hn
  · exact h2 n hn
  · have := (List.mem_replicate.1 hn).2; omega
theorem alone_of {f : FuncM} {params : List Int} (h : funcB f params = true) (hp : parOk params = true) : aloneB f = true := by
  have h5 := (parOk_iff.1 hp).1
  obtain ⟨n, hn, e⟩ := digs_of (l := params ++ List.replicate (5 - params.length) 0) (by simp; omega) (parOk_fill hp)
  exact alone_yes hn (by rw [e]; exact funcB_more h (parOk_fill hp))
/-- what holds of a function that calls are asked of -/
theorem okF_fn {fs : List FuncM} {fn : Int} (h : okF fs fn = true) : ∃ n : Nat, ∃ hn : n < fs.length, fn = (n : Int) ∧ aloneB fs[n] = true ∧ ordR fs[n] = intL (List.range fs[n].qStmts.length) ∧ (sitR fs[n]).length ≤ 4 := by
  unfold okF at h
  rw [Bool.and_eq_true] at h
  obtain ⟨n, rfl, hn⟩ := fs_len h.2
  have hg := h.1
  unfold progS at hg
  simp only [Bool.and_eq_true, List.all_eq_true] at hg
  obtain ⟨_, hp, _, hf⟩ := hg
  have hF := (hf fs[n] (List.getElem_mem hn)).1
  have ha := alone_of hF hp
  refine ⟨n, hn, rfl, ha, ?_, ?_⟩
  · unfold ordR; rw [if_pos ha]; exact (shaped_ord (alone_sh ha)).2.2.2
  · unfold sitR; rw [if_pos ha]
    unfold funcB at hF
    simp only [Bool.and_eq_true, decide_eq_true_eq] at hF
    exact hF.1.2.2.2.2
end Go.Proofs.Ytheddnjhkcpmnaa
