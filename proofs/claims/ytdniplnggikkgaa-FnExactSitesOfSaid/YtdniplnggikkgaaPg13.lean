
/- isLoneFunc, l3Alone. No condition. -/
import Derived.Test.YtdniplnggikkgaaPg13P
set_option linter.unusedSimpArgs false
set_option linter.unusedVariables false
set_option maxRecDepth 100000
namespace Go.Proofs.Ytdniplnggikkgaa
open Go.RowKit

set_option maxHeartbeats 3200000 in
theorem impl_isLoneFunc (cs : List Value) (m : FuncM) (w : World) (hr : RFunc w 0 w.heap.size cs m) (hz : szFuncN m ≤ 1048576) :
    Calls Try.prog 55 #[.agg cs.toArray] w fun e w' => e = .returned (.bool (aloneB m)) ∧ Below w.heap.size w w' := by
  have hr0 := hr
  obtain ⟨v2, v3, rfl, h2, h3⟩ := hr
  obtain ⟨m0, m1, body, l⟩ := m
  dsimp only at *
  obtain ⟨A3, c3, rfl⟩ := h3.form
  have hll := h3.long
  have hb0 := (Below.refl w.heap.size w).alloc (Nat.le_refl _) (.cells #[.int .i64 m0, .int .i64 m1, v2, .slice A3 l.length c3] 42)
  have hk0 := Bk.new w 42 #[.int .i64 m0, .int .i64 m1, v2, .slice A3 l.length c3]
  have hsh := impl_isShaped _ ⟨m0, m1, body, l⟩ _ (RFunc_stable.here hr0 hb0) hz
  have hfe := fun p => func_eq ⟨m0, m1, body, l⟩ p
  have hay := fun n hn h => alone_yes (f := ⟨m0, m1, body, l⟩) (n := n) hn h
  have han := fun h => alone_no (f := ⟨m0, m1, body, l⟩) h
  generalize aloneB ⟨m0, m1, body, l⟩ = R at *
  have H3 := hide h3; have Hb0 := hide hb0; have Hk0 := hide hk0
  clear h2 h3 hb0 hk0 hr0
  cases gs : shapedB ⟨m0, m1, body, l⟩
  · rw [gs] at hsh
    have HF := hide (han (fun n _ => by rw [hfe, gs]; rfl))
    have Hsh := hide hsh; clear hsh gs hfe hay han
    go_enter Try.func55, Try.ntmps55
    go_wp2_with (go_at_call 76; refine (Hsh.out).mono ?_; rintro e w1 ⟨rfl, hb1⟩)
    go_ret
    exact ⟨retB HF.out.symm, Hb0.out.trans (hb1.mono Hb0.out.size)⟩
  rw [gs] at hsh
  obtain ⟨v1, v2', v3⟩ := shaped_vars gs
  dsimp only at v1 v2' v3
  have hfe : ∀ p, funcB ⟨m0, m1, body, l⟩ p = l.all (stmtOk m1 p) := fun p => by rw [hfe, gs]; rfl
  have hcl : ∀ (n : Nat) (W : World) (gp : Nat) (Ap : Option Addr) (cp : Nat), Below w.heap.size w W → Bk W w.heap.size 42 #[.int .i64 m0, .int .i64 m1, v2, .slice A3 l.length c3] → Bk W gp 33 #[.slice Ap 5 cp] → Rd W W.heap.size (.slice Ap 5 cp) 5 (icells .i64 (digs n)) →
      Calls Try.prog 61 #[.slice A3 l.length c3, .func (.func 81) #[] #[.pointer (some ⟨w.heap.size, 0, none⟩), .pointer (some ⟨gp, 0, none⟩)]] W fun e w' => e = .returned (.bool (!funcB ⟨m0, m1, body, l⟩ (digs n))) ∧ Below W.heap.size W w' := fun n W gp Ap cp hW h1 h2 hrd => by
    have e : (!funcB ⟨m0, m1, body, l⟩ (digs n)) = l.any (fun s => !stmtOk m1 (digs n) s) := by rw [hfe, List.all_eq_not_any_not, Bool.not_not]
    rw [e]
    refine anyStmt l A3 c3 _ 81 _ (enters_of Try.func81 (by kernel_rfl) rfl) W (H3.out.here RStmt_stable hW) (by omega) (fun j hj A5 c5 A6 c6 A7 c7 W' hW' hrd' => ?_)
    rw [stmtOk_N, ← lone_ok ⟨v1, v2'⟩ (digs_ok n) (digs_length n)]
    exact impl_isLoneFunc1 m0 m1 v2 (.slice A3 l.length c3) l[j].qKind l[j].qN l[j].qEx A5 A6 A7 c5 c6 c7 _ _ (digs n) Ap cp W' w.heap.size gp (hrd'.here hW') (hrd.here hW') v1 v2' (digs_ok n) (h1.below hW') (h2.below hW')
  have Hsh := hide hsh; have Hcl := Lib.hid hcl; have Hay := Lib.hid hay; have Han := Lib.hid han
  clear hsh gs hfe hay han hcl
  generalize hF : (fun n => funcB ⟨m0, m1, body, l⟩ (digs n)) = F at *
  have hF' : ∀ n, funcB ⟨m0, m1, body, l⟩ (digs n) = F n := fun n => by rw [← hF]
  clear hF
  simp only [hF'] at Hcl Hay Han
  clear hF'
  go_enter Try.func55, Try.ntmps55
  go_wp2_with (go_at_call 76; refine (Hsh.out).mono ?_; rintro e w1 ⟨rfl, hb1⟩; have Hb1 := hide (Hb0.out.trans (hb1.mono Hb0.out.size)); have Hk1 := hide (Hk0.out.below hb1); clear hb1)
  go_loopw [9] (fun i wr => ∃ n : Nat, n ≤ 243 ∧ i = .int .i64 n ∧ (∀ q, q < n → F q = false) ∧ Below w.heap.size w wr ∧ Bk wr w.heap.size 42 #[.int .i64 m0, .int .i64 m1, v2, .slice A3 l.length c3]) (fun i _ => 243 - (intOf i).toNat)
  case atStart => exact ⟨0, by omega, rfl, fun q hq => by omega, Hb1.out, Hk1.out⟩
  case round =>
    obtain ⟨n, hn, rfl, hno, hb, hkk⟩ := hrel
    have hbs := hb.size
    have hkkl := hkk.lt
    by_cases hlt : n < 243
    · have Hb := hide hb; have Hkk := hide hkk; have Hno := hide hno
      clear hb hkk hno
      go_wp2_with (at_make; go_must (refine wpList_makeN rfl _ _ _ rfl okI64 5 rfl rfl (by omega) (by unfold maxLen; omega) ?_); intro w2 hown2 hb2; have Hs2 := hide hown2; have Hb2 := hide (Hb.out.trans (hb2.mono Hb.out.size)); have Hk2 := hide (Hkk.out.below hb2); have Hz2 := hide hb2.size; clear hown2 hb2)
      have hs2 := Hs2.out
      rw [made_int] at hs2
      have hs3 := hs2.alloc (.cells #[.slice (some ⟨wr.heap.size, 0, none⟩) 5 5] 33)
      have hb3 := Hb2.out.alloc Hb2.out.size (.cells #[.slice (some ⟨wr.heap.size, 0, none⟩) 5 5] 33)
      have hk3 := Hk2.out.alloc (.cells #[.slice (some ⟨wr.heap.size, 0, none⟩) 5 5] 33)
      have hq3 := Bk.new w2 33 #[.slice (some ⟨wr.heap.size, 0, none⟩) 5 5]
      have hgl : wr.heap.size < w2.heap.size := (hs2.lt _ rfl).2
      have hne1 : w.heap.size ≠ wr.heap.size := by omega
      have hne2 : w2.heap.size ≠ wr.heap.size := by omega
      have hle1 : w.heap.size ≤ wr.heap.size := hbs
      have Hs3 := hide hs3; have Hb3 := hide hb3; have Hk3 := hide hk3; have Hq3 := hide hq3
      clear hs2 hs3 hb3 hk3 hq3
      go_loopw [3, 15] (fun kv jv wi => ∃ (j : Nat) (xs : List Int), j ≤ 5 ∧ jv = .int .i64 j ∧ kv = .int .i64 ((n / 3 ^ j : Nat) : Int) ∧ xs.length = 5 ∧ xs.take j = (digs n).take j ∧ wi.ownsRow wr.heap.size 3 1 (.slice (some ⟨wr.heap.size, 0, none⟩) 5 5) 5 (icells .i64 xs) ∧ Below w.heap.size w wi ∧ Bk wi w.heap.size 42 #[.int .i64 m0, .int .i64 m1, v2, .slice A3 l.length c3] ∧ Bk wi w2.heap.size 33 #[.slice (some ⟨wr.heap.size, 0, none⟩) 5 5]) (fun _ jv _ => 5 - (intOf jv).toNat)
      case atStart => exact ⟨0, List.replicate 5 0, by omega, rfl, by simp, by simp, by simp, Hs3.out, Hb3.out, Hk3.out, Hq3.out⟩
      case round =>
        obtain ⟨j, xs, hj, rfl, rfl, hxl, hxt, hown, hbi, hki, hqi⟩ := hrel
        have q0 := hqi.cell 0
        have hqil := hqi.lt
        by_cases hjt : j < 5
        · have hd : Int.tmod ((n / 3 ^ j : Nat) : Int) 3 = dig n j := rfl
          have hq : Int.tdiv ((n / 3 ^ j : Nat) : Int) 3 = ((n / 3 ^ (j + 1) : Nat) : Int) := by rw [Nat.pow_succ, ← Nat.div_div_eq_div_mul]; rfl
          have hnb : n / 3 ^ j ≤ 243 := Nat.le_trans (Nat.div_le_self _ _) hn
          obtain ⟨u0, hu0⟩ := own_at hown (j := j) (by omega)
          have hz0 := hown.frozenAt j
          have hxs := digs_step hjt hxl hxt
          have Hown := hide hown; have Hbi := hide hbi; have Hki := hide hki; have Hqi := hide hqi; have Hxs := hide hxs; have Hxl := hide hxl
          clear hown hbi hki hqi hxs hxl hxt
          generalize (n / 3 ^ j : Nat) = nq at *
          have hnb2 : n / 3 ^ (j + 1) ≤ 243 := Nat.le_trans (Nat.div_le_self _ _) hn
          have hwr : wrap64 ((n / 3 ^ (j + 1) : Nat) : Int) = ((n / 3 ^ (j + 1) : Nat) : Int) := (fun (q : Nat) (h : q ≤ 243) => (by unfold wrap64; omega : wrap64 (q : Int) = (q : Int))) _ hnb2
          obtain ⟨nr, hnr⟩ : ∃ nr, nr = n / 3 ^ (j + 1) := ⟨_, rfl⟩
          rw [← hnr] at hq hwr hnb2
          have Hnr := hide hnr; have Hwr := hide hwr; clear hnr hwr
          go_wp2
          go_roundw
          case rel =>
            refine ⟨j + 1, xs.set j (dig n j), by omega, by go_num, by rw [Hnr.out], by rw [List.length_set]; exact Hxl.out, Hxs.out, ?_, Hbi.out.setCell hle1 _, Hki.out.far hne1 _ _, Hqi.out.far hne2 _ _⟩
            have := own_set Hown.out j (.int .i64 (dig n j))
            rw [icells_set] at this
            exact this
          case measure => simp [intOf]; omega
        · obtain rfl : j = 5 := by omega
          obtain rfl := digs_all hxl hxt
          have Hown := hide hown; have Hbi := hide hbi; have Hki := hide hki; have Hqi := hide hqi
          have p3 := hki.cell 3
          have hkil := hki.lt
          clear hown hbi hki hqi hxl hxt
          have hC := Hcl.out n _ _ _ _ Hbi.out Hki.out Hqi.out (Rd.of_own Hown.out)
          cases hf : F n
          · rw [hf] at hC
            have HC := hide hC; have HN := hide hf; clear hC hf
            go_wp2_with (go_at_call 61; refine (HC.out).mono ?_; rintro e w6 ⟨rfl, hb6⟩; have HB6 := hide (Hbi.out.trans (hb6.mono Hbi.out.size)); have HK6 := hide (Hki.out.below hb6); clear hb6)
            go_roundw
            case rel => exact ⟨n + 1, by omega, by go_num, fun q hq => by rcases Nat.lt_succ_iff_lt_or_eq.1 hq with h | h; exact Hno.out q h; exact h ▸ HN.out, HB6.out, HK6.out⟩
            case measure => simp [intOf]; omega
          · rw [hf] at hC
            have HC := hide hC; have HF := hide (Hay.out n hlt hf); clear hC hf
            go_wp2_with (go_at_call 61; refine (HC.out).mono ?_; rintro e w6 ⟨rfl, hb6⟩; have HB6 := hide (Hbi.out.trans (hb6.mono Hbi.out.size)); clear hb6)
            go_ret
            exact ⟨retB HF.out.symm, HB6.out⟩
    · obtain rfl : n = 243 := by omega
      have HF := hide (Han.out hno); have Hb := hide hb; clear hno hb hkk
      go_wp2
      go_ret
      exact ⟨retB HF.out.symm, Hb.out⟩
end Go.Proofs.Ytdniplnggikkgaa
