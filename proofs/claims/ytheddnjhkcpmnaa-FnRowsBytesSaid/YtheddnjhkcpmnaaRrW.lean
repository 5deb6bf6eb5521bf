
/- impl.readRows, impl.ReadRows: what the Go text returns. No condition. -/
import Derived.Test.YtheddnjhkcpmnaaRrP
import Derived.Test.YtheddnjhkcpmnaaGr
import Derived.Test.YtheddnjhkcpmnaaRs
import Derived.Test.YtheddnjhkcpmnaaBlk
import Derived.Outline
set_option linter.unusedSimpArgs false
set_option linter.unusedVariables false
set_option maxRecDepth 100000
namespace Go.Proofs.Ytheddnjhkcpmnaa
open Go.RowKit

set_option maxHeartbeats 3200000 in
theorem impl_readRows (s : ByteArray) (many : Int) (hm1 : 1 ≤ many) (hm2 : many ≤ 300) (a : Nat) (ha : a ≤ s.size) (hs : s.size ≤ 9223372036854775807) (w : World) :
    Calls Try.prog 105 #[.string s, .int .i64 (a : Int), .int .i64 many] w fun e w' => ∃ v, e = .returned (.tuple #[v, .int .i64 ((rrI s a many).2.1 : Nat), .int .i64 ((rrI s a many).2.2 : Nat)]) ∧ w'.ownsRow w.heap.size 72 3 v (rrI s a many).1.length (rcells (rrI s a many).1) ∧ Below w.heap.size w w' := by
  have hc := fun w => impl_readU s a hs (by omega) (by omega) w
  have hf := rdU_any s a
  have hI : rrI s a many = if (rdU s a).2.2.2 = true ∧ (rdU s a).1 ≤ 300 then triI s many (rdU s a).1 (rdU s a).2.1 0 true [] else ([], 0, 1) := rfl
  generalize rdU s (a : Int) = r at *
  generalize rrI s a many = F at *
  obtain ⟨n, e0, cd, ok⟩ := r
  dsimp only at *
  obtain ⟨f1, f2⟩ := hf
  have Hc := Lib.hid hc; clear hc
  by_cases hok : ok = true ∧ n ≤ 300
  · rw [if_pos hok] at hI
    obtain ⟨rfl, hn⟩ := hok
    have HI := hide hI; clear hI
    go_enter Try.func105, Try.ntmps105
    go_wp2_with (go_at_call 63; refine (Hc.out _).mono ?_; rintro e w1 ⟨rfl, rfl⟩)
    go_loopw [12, 13, 14, 1, 43] (fun out en sm at_ i wr => ∃ (k e : Nat) (x : Int) (smb : Bool) (acc : List R3), k ≤ n ∧ i = .int .u64 k ∧ at_ = .int .i64 e ∧ en = .int .i64 x ∧ sm = .bool smb ∧ e ≤ s.size ∧ 0 ≤ x ∧ x ≤ 2000000 * k ∧ acc.length ≤ k ∧ triI s many (n - k) e x smb acc = F ∧ wr.ownsRow w.heap.size 72 3 out acc.length (rcells acc) ∧ Below w.heap.size w wr) (fun _ _ _ _ i _ => n - (intOf i).toNat)
    case atStart => exact ⟨0, e0, 0, true, [], by omega, rfl, rfl, rfl, rfl, f2, by omega, by omega, by simp, HI.out.symm, World.ownsRow_nil _ _ _ _, Below.refl _ _⟩
    case round =>
      obtain ⟨k, e, x, smb, acc, hk, rfl, rfl, rfl, rfl, hes, hx1, hx2, hal, hlp, hown, hb⟩ := hrel
      have Hown := hide hown; have Hb := hide hb
      have hbs := hb.size
      clear hown hb HI
      by_cases hlt : k < n
      · obtain ⟨gv, gn, gc, gok, lv, ln, lc, lok, pv, pn, pc, pok, e1, e2, e3, b1, b2, b3, b4, ⟨b5, b5'⟩, b6, ht⟩ := tri_parts s e
        have c1 := fun w => impl_readU s e hs (by omega) (by omega) w
        have c2 := fun w => impl_readU s gn hs (by omega) (by omega) w
        have c3 := fun w => impl_readS s ln hs (by omega) (by omega) w
        simp only [e1] at c1
        simp only [e2] at c2
        simp only [e3] at c3
        rw [show n - k = (n - (k + 1)) + 1 by omega] at hlp
        have hN := fun h => (triI_no (many := many) (k := n - (k + 1)) (x := x) (sm := smb) (acc := acc) h).symm.trans hlp
        have hS := fun h h2 => (triI_great (many := many) (k := n - (k + 1)) (x := x) (sm := smb) (acc := acc) (s := s) (a := e) (g := gv) (l := lv) (p := pv) (e := pn) h h2).symm.trans hlp
        have hY := fun (h : tri s e = _) (h0 : true = smb) h2 => (triI_small (many := many) (k := n - (k + 1)) (x := x) (acc := acc) (s := s) (a := e) (g := gv) (l := lv) (p := pv) (e := pn) h h2).symm.trans ((congrArg (fun z => triI s many (n - (k + 1) + 1) e x z acc) h0).trans hlp)
        clear hlp e1 e2 e3
        have C1 := Lib.hid c1; have C2 := Lib.hid c2; have C3 := Lib.hid c3; clear c1 c2 c3
        have Ht := hide ht; have HN := hide hN; have HS := hide hS; have HY := hide hY; clear ht hN hS hY
        go_wp2_with fail
        refine (C1.out _).mono ?_
        rintro e w2 ⟨rfl, rfl⟩
        go_wp2_with fail
        refine (C2.out _).mono ?_
        rintro e w2 ⟨rfl, rfl⟩
        go_wp2_with fail
        refine (C3.out _).mono ?_
        rintro e w2 ⟨rfl, hb2⟩
        have Hown2 := hide (own_keep Hown.out hb2); have Hb2 := hide (Hb.out.trans (hb2.mono hbs))
        have hbs2 := Hb2.out.size
        clear hb2 C1 C2 C3 Hown Hb
        cases gok
        · have HN' := hide (HN.out (by rw [Ht.out]; rfl)); clear HN HS HY Ht
          go_wp2
          go_ret3
          rw [← HN'.out]
          exact ⟨_, rfl, World.ownsRow_nil _ _ _ _, Hb2.out⟩
        cases lok
        · have HN' := hide (HN.out (by rw [Ht.out]; rfl)); clear HN HS HY Ht
          go_wp2
          go_ret3
          rw [← HN'.out]
          exact ⟨_, rfl, World.ownsRow_nil _ _ _ _, Hb2.out⟩
        cases pok
        · have HN' := hide (HN.out (by rw [Ht.out]; rfl)); clear HN HS HY Ht
          go_wp2
          go_ret3
          rw [← HN'.out]
          exact ⟨_, rfl, World.ownsRow_nil _ _ _ _, Hb2.out⟩
        have ht := Ht.out
        rw [if_pos ⟨rfl, rfl, rfl⟩] at ht
        clear HN Ht
        cases smb
        · have HS' := hide (HS.out ht (fun h => by cases h.1)); clear HS HY ht
          go_wp2
          go_roundw
          case rel => exact ⟨k + 1, pn, x, false, acc, by omega, by go_num, rfl, rfl, rfl, b6, hx1, by omega, by omega, HS'.out, Hown2.out, Hb2.out⟩
          case measure => simp [intOf]; omega
        · rcases small_ways gv lv pv with q | ⟨q, q1⟩ | ⟨q, q1, q2⟩ | ⟨q, q1, q2, q3⟩ | ⟨q, q1, q2, q3, q4⟩
          · have HY' := hide (HY.out ht rfl q); clear HS HY ht
            obtain ⟨q1, q2, q3, q4⟩ := q
            have hp := Hown2.out.alloc (.cells #[.int .i64 (x + gv), .int .i64 (x + gv + lv), .int .i64 (x + gv + lv + pv)] 72)
            have hpb := Hb2.out.alloc hbs2 (.cells #[.int .i64 (x + gv), .int .i64 (x + gv + lv), .int .i64 (x + gv + lv + pv)] 72)
            have Hp := hide hp; have Hpb := hide hpb; clear hp hpb
            go_wp2_with (first
              | (go_at_call 79; go_in)
              | (at_builtin; refine wpList_push' rfl _ _ _ rfl okRow rfl Hp.out _ rfl (by rw [World.size_alloc]) rfl (by simp [Value.oneCell']) (by unfold maxLen; omega) (by omega) Hpb.out.size ?_; intro v1 w3 hown3 hg3; have hk1 : w3.cell? ⟨w2.heap.size, 1, none⟩ = some (.int .i64 (x + gv + lv)) := (World.cell?_of_block (hg3.block w2.heap.size (by rw [World.size_alloc, World.size_alloc]; omega) (fun e => by have := (Hown2.out.lt _ e.symm).2; omega))).trans (((Bk.new w2 72 #[.int .i64 (x + gv), .int .i64 (x + gv + lv), .int .i64 (x + gv + lv + pv)]).alloc _).cell 1)))
            go_roundw
            case rel => exact ⟨k + 1, pn, x + gv + lv, true, acc ++ [⟨x + gv, x + gv + lv, x + gv + lv + pv⟩], by omega, by go_num, rfl, rfl, rfl, b6, by omega, by omega, by simp; omega, HY'.out, by rw [List.length_append, List.length_singleton, rcells_append]; exact hown3, belowPush Hpb.out Hp.out Hpb.out.size hg3⟩
            case measure => simp [intOf]; omega
          all_goals
            have HS' := hide (HS.out ht (fun h => q h.2)); clear HS HY ht q
            try have d4 : decide (pv ≤ 1000000) = false := decide_eq_false (by omega)
            go_wp2_with (first | (go_at_call 79; go_in))
            go_roundw
            case rel => exact ⟨k + 1, pn, x, false, acc, by omega, by go_num, rfl, rfl, rfl, b6, hx1, by omega, by omega, HS'.out, Hown2.out, Hb2.out⟩
            case measure => simp [intOf]; omega
      · obtain rfl : k = n := by omega
        rw [Nat.sub_self] at hlp
        cases smb
        · have e : F = ([], 0, 3) := by rw [← hlp]; rfl
          have HF := hide e; clear hlp e
          go_wp2
          go_ret3
          rw [HF.out]
          exact ⟨_, rfl, World.ownsRow_nil _ _ _ _, Hb.out⟩
        · have e : F = if rowsOk many 0 acc = true then (acc, e, 0) else ([], 0, 3) := by rw [← hlp]; unfold triI; simp
          have HF := hide e; clear hlp e
          go_wp2_with fail
          refine (impl_areRows _ acc many _ (Rd.of_own Hown.out) (by omega) hm1 hm2).mono ?_
          rintro e w2 ⟨rfl, hb2⟩
          have Hown2 := hide (own_keep Hown.out hb2); have Hb2 := hide (Hb.out.trans (hb2.mono hbs)); clear hb2
          by_cases g : rowsOk many 0 acc = true
          · have HF' : Hid (F = _) := hide (HF.out.trans (if_pos g)); clear HF
            rw [g]; clear g
            go_wp2
            go_ret3
            rw [HF'.out]
            exact ⟨_, rfl, Hown2.out, Hb2.out⟩
          · have HF' : Hid (F = _) := hide (HF.out.trans (if_neg g)); clear HF
            have g' : rowsOk many 0 acc = false := by simpa using g
            rw [g']; clear g g'
            go_wp2
            go_ret3
            rw [HF'.out]
            exact ⟨_, rfl, World.ownsRow_nil _ _ _ _, Hb2.out⟩
  · rw [if_neg hok] at hI
    have HI := hide hI; clear hI
    by_cases hok2 : ok = true
    · subst hok2
      have hn : ¬ n ≤ 300 := fun h => hok ⟨rfl, h⟩
      clear hok
      go_enter Try.func105, Try.ntmps105
      go_wp2_with (go_at_call 63; refine (Hc.out _).mono ?_; rintro e w1 ⟨rfl, rfl⟩)
      go_ret3
      rw [HI.out]
      exact ⟨_, rfl, World.ownsRow_nil _ _ _ _, Below.refl _ _⟩
    · obtain rfl : ok = false := by simpa using hok2
      clear hok hok2
      go_enter Try.func105, Try.ntmps105
      go_wp2_with (go_at_call 63; refine (Hc.out _).mono ?_; rintro e w1 ⟨rfl, rfl⟩)
      go_ret3
      rw [HI.out]
      exact ⟨_, rfl, World.ownsRow_nil _ _ _ _, Below.refl _ _⟩
end Go.Proofs.Ytheddnjhkcpmnaa
