
/- l3Alone. No condition. -/
import Derived.Test.YtdniplnggikkgaaPg13P
import Derived.Test.YtdniplnggikkgaaPg7
set_option linter.unusedSimpArgs false
set_option linter.unusedVariables false
set_option maxRecDepth 100000
namespace Go.Proofs.Ytdniplnggikkgaa
open Go.RowKit

set_option maxHeartbeats 3200000 in
theorem spec_l3Alone (cs : List Value) (m : FuncM) (w : World) (hr : RFunc w 0 w.heap.size cs m) (hz : szFuncN m ≤ 1048576) :
    Calls Try.prog 51 #[.agg cs.toArray] w fun e w' => e = .returned (.bool (aloneB m)) ∧ Below w.heap.size w w' := by
  have hr0 := hr
  obtain ⟨v2, v3, rfl, h2, h3⟩ := hr
  have hb0 := (Below.refl w.heap.size w).alloc (Nat.le_refl _) (.cells #[.int .i64 m.qParams, .int .i64 m.qVars, v2, v3] 42)
  have hk0 := Bk.new w 42 #[.int .i64 m.qParams, .int .i64 m.qVars, v2, v3]
  have hcl := fun (n : Nat) (W : World) (pv : Value) (hW : Below w.heap.size w W) (hrd : Rd W W.heap.size pv 5 (icells .i64 (digs n))) => spec_l3Func _ m (digs n) pv W (RFunc_stable.here hr0 hW) hrd (by rw [digs_length]; omega) hz
  have hay := fun n hn h => alone_yes (f := m) (n := n) hn h
  have han := fun h => alone_no (f := m) h
  generalize aloneB m = R at *
  have Hb0 := hide hb0; have Hk0 := hide hk0
  clear h2 h3 hb0 hk0 hr0
  have Hcl := Lib.hid hcl; have Hay := Lib.hid hay; have Han := Lib.hid han
  clear hay han hcl
  generalize hF : (fun n => funcB m (digs n)) = F at *
  have hF' : ∀ n, funcB m (digs n) = F n := fun n => by rw [← hF]
  clear hF
  simp only [hF'] at Hcl Hay Han
  clear hF' hz
  generalize m.qParams = m0 at *
  generalize m.qVars = m1 at *
  go_enter Try.func51, Try.ntmps51
  go_wp2_with (at_make; go_must (refine wpList_makeN rfl _ _ _ rfl okI64 5 rfl rfl (by omega) (by unfold maxLen; omega) ?_); intro w2 hown2 hb2; have Hs2 := hide hown2; have Hb2 := hide (Hb0.out.trans (hb2.mono Hb0.out.size)); have Hk2 := hide (Hk0.out.below hb2); clear hown2 hb2)
  have hs2 := Hs2.out
  rw [made_int, World.size_alloc] at hs2
  have Hs3 := hide hs2
  clear hs2
  go_loopw [4] (fun i wr => ∃ (n : Nat) (xs : List Int), n ≤ 243 ∧ i = .int .i64 n ∧ (∀ q, q < n → F q = false) ∧ xs.length = 5 ∧ wr.ownsRow (w.heap.size + 1) 3 1 (.slice (some ⟨w.heap.size + 1, 0, none⟩) 5 5) 5 (icells .i64 xs) ∧ Below w.heap.size w wr ∧ Bk wr w.heap.size 42 #[.int .i64 m0, .int .i64 m1, v2, v3]) (fun i _ => 243 - (intOf i).toNat)
  case atStart => exact ⟨0, List.replicate 5 0, by omega, rfl, fun q hq => by omega, by simp, Hs3.out, Hb2.out, Hk2.out⟩
  case round =>
    obtain ⟨n, xs, hn, rfl, hno, hxl, hown, hb, hkk⟩ := hrel
    have hbs := hb.size
    by_cases hlt : n < 243
    · have Hb := hide hb; have Hkk := hide hkk; have Hno := hide hno; have Hown := hide hown; have Hxl := hide hxl
      have hle1 : w.heap.size ≤ w.heap.size + 1 := by omega
      have hne1 : w.heap.size ≠ w.heap.size + 1 := by omega
      clear hb hkk hno hown hxl
      go_wp2
      go_loopw [5, 15] (fun kv jv wi => ∃ (j : Nat) (xs : List Int), j ≤ 5 ∧ jv = .int .i64 j ∧ kv = .int .i64 ((n / 3 ^ j : Nat) : Int) ∧ xs.length = 5 ∧ xs.take j = (digs n).take j ∧ wi.ownsRow (w.heap.size + 1) 3 1 (.slice (some ⟨w.heap.size + 1, 0, none⟩) 5 5) 5 (icells .i64 xs) ∧ Below w.heap.size w wi ∧ Bk wi w.heap.size 42 #[.int .i64 m0, .int .i64 m1, v2, v3]) (fun _ jv _ => 5 - (intOf jv).toNat)
      case atStart => exact ⟨0, xs, by omega, rfl, by simp, Hxl.out, by simp, Hown.out, Hb.out, Hkk.out⟩
      case round =>
        obtain ⟨j, xs, hj, rfl, rfl, hxl, hxt, hown, hbi, hki⟩ := hrel
        by_cases hjt : j < 5
        · have hd : Int.tmod ((n / 3 ^ j : Nat) : Int) 3 = dig n j := rfl
          have hq : Int.tdiv ((n / 3 ^ j : Nat) : Int) 3 = ((n / 3 ^ (j + 1) : Nat) : Int) := by rw [Nat.pow_succ, ← Nat.div_div_eq_div_mul]; rfl
          have hnb : n / 3 ^ j ≤ 243 := Nat.le_trans (Nat.div_le_self _ _) hn
          obtain ⟨u0, hu0⟩ := own_at hown (j := j) (by omega)
          have hz0 := hown.frozenAt j
          have hgl := (hown.lt _ rfl).2
          have hxs := digs_step hjt hxl hxt
          have Hown := hide hown; have Hbi := hide hbi; have Hki := hide hki; have Hxs := hide hxs; have Hxl := hide hxl
          clear hown hbi hki hxs hxl hxt
          generalize (n / 3 ^ j : Nat) = nq at *
          have hnb2 : n / 3 ^ (j + 1) ≤ 243 := Nat.le_trans (Nat.div_le_self _ _) hn
          have hwr : wrap64 ((n / 3 ^ (j + 1) : Nat) : Int) = ((n / 3 ^ (j + 1) : Nat) : Int) := (fun (q : Nat) (h : q ≤ 243) => (by unfold wrap64; omega : wrap64 (q : Int) = (q : Int))) _ hnb2
          obtain ⟨nr, hnr⟩ : ∃ nr, nr = n / 3 ^ (j + 1) := ⟨_, rfl⟩
          rw [← hnr] at hq hwr hnb2
          have Hnr := hide hnr; have Hwr := hide hwr; clear hnr hwr
          go_wp2
          go_roundw
          case rel =>
            refine ⟨j + 1, xs.set j (dig n j), by omega, by go_num, by rw [Hnr.out], by rw [List.length_set]; exact Hxl.out, Hxs.out, ?_, Hbi.out.setCell hle1 _, Hki.out.far hne1 _ _⟩
            have := own_set Hown.out j (.int .i64 (dig n j))
            rw [icells_set] at this
            exact this
          case measure => simp [intOf]; omega
        · obtain rfl : j = 5 := by omega
          obtain rfl := digs_all hxl hxt
          have Hown := hide hown; have Hbi := hide hbi; have Hki := hide hki
          have p0 := hki.cell 0; have p1 := hki.cell 1; have p2 := hki.cell 2; have p3 := hki.cell 3
          have hkil := hki.lt
          clear hown hbi hki hxl hxt
          have hC := Hcl.out n _ _ Hbi.out (Rd.of_own Hown.out)
          cases hf : F n
          · rw [hf] at hC
            have HC := hide hC; have HN := hide hf; clear hC hf
            go_wp2_with (go_at_call 44; refine (HC.out).mono ?_; rintro e w6 ⟨rfl, hb6⟩; have HB6 := hide (Hbi.out.trans (hb6.mono Hbi.out.size)); have HK6 := hide (Hki.out.below hb6); have HO6 := hide (own_keep Hown.out hb6); clear hb6)
            go_roundw
            case rel => exact ⟨n + 1, _, by omega, by go_num, fun q hq => by rcases Nat.lt_succ_iff_lt_or_eq.1 hq with h | h; exact Hno.out q h; exact h ▸ HN.out, digs_length n, HO6.out, HB6.out, HK6.out⟩
            case measure => simp [intOf]; omega
          · rw [hf] at hC
            have HC := hide hC; have HF := hide (Hay.out n hlt hf); clear hC hf
            go_wp2_with (go_at_call 44; refine (HC.out).mono ?_; rintro e w6 ⟨rfl, hb6⟩; have HB6 := hide (Hbi.out.trans (hb6.mono Hbi.out.size)); clear hb6)
            go_ret
            exact ⟨retB HF.out.symm, HB6.out⟩
    · obtain rfl : n = 243 := by omega
      have HF := hide (Han.out hno); have Hb := hide hb; clear hno hb hkk hown
      go_wp2
      go_ret
      exact ⟨retB HF.out.symm, Hb.out⟩
end Go.Proofs.Ytdniplnggikkgaa
