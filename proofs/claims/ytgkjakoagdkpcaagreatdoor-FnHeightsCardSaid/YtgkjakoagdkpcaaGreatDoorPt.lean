
/- l1Put: what the Go text returns. No condition. -/
import Derived.Test.YtgkjakoagdkpcaaGreatDoorSl6
import Derived.Test.YtgkjakoagdkpcaaGreatDoorNst
import Derived.Lib.SliceRun
set_option linter.unusedSimpArgs false
set_option linter.unusedVariables false
set_option maxRecDepth 100000
namespace Go.Proofs.YtgkjakoagdkpcaaGreatDoor
open Go.RowKit

set_option maxHeartbeats 3200000 in
theorem spec_l1PutH (v : Value) (l : List Int) (x : Int) (w : World) (base : Nat) (hown : w.ownsRow base 3 1 v l.length (icells .i64 l)) (hbase : base ≤ w.heap.size) (hl : l.length ≤ 1000) :
    Calls Tryz.prog 70 #[v, .int .i64 x] w fun e w' => ∃ v', e = .returned v' ∧ w'.ownsRow base 3 1 v' (putL l x).length (icells .i64 (putL l x)) ∧ Below w.heap.size w w' := by
  have Own0 := hide (own0 w)
  rcases id hown.2 with ⟨rfl, h0⟩ | ⟨g, c, cur, rfl, hg, hh, hnc, hcm, _⟩
  · obtain rfl := List.eq_nil_of_length_eq_zero h0
    clear h0 hown
    go_enter Tryz.func70, Tryz.ntmps70
    go_wp2
    go_loop [5] (fun i => i = .int .i64 0) (fun i => 0)
    case atStart => rfl
    case round =>
      obtain rfl := hrel
      go_wp2_with (first
        | (at_builtin; refine wpList_catNone rfl _ _ _ rfl okI64 rfl Own0.out rfl ?_)
        | (at_builtin; refine wpList_pushG rfl _ _ _ rfl okI64 rfl Own0.out #[.int .i64 x] rfl (by rw [World.size_alloc]) rfl (by simp [Value.oneCell']) (by unfold maxLen; omega) (by omega) (by rw [World.size_alloc]; omega) ?_; intro v2 w2 hown2 hg2; have Ho2 := hide hown2; have Hg2 := hide hg2; clear hown2 hg2)
        | (at_builtin; refine wpList_catNone rfl _ _ _ rfl okI64 rfl Ho2.out rfl ?_))
      go_ret
      have hb3 := (Below.refl w.heap.size w).alloc (Nat.le_refl _) (.cells #[] 3) |>.trans (Hg2.out.toBelow Own0.out (by rw [World.size_alloc]; omega))
      exact ⟨_, rfl, own_base Ho2.out hbase, hb3⟩
  have Hr := hide (Rd.of_own hown)
  have hgw : g < w.heap.size := (Array.getElem?_eq_some_iff.1 hh).1
  have Hown := hide hown
  clear hown hh
  go_enter Tryz.func70, Tryz.ntmps70
  go_wp2
  go_loop [5] (fun i => ∃ k : Nat, k ≤ l.length ∧ i = .int .i64 k ∧ ∀ j (h : j < l.length), j < k → l[j] < x) (fun i => l.length - (intOf i).toNat)
  case atStart => exact ⟨0, by omega, rfl, fun j _ h => by omega⟩
  case round =>
    obtain ⟨k, hk, rfl, hlt⟩ := hrel
    have hu1 : ∀ j u, (icells .i64 (l.take k))[j]? = some u → (w.alloc (.cells #[] 3)).cell? ⟨g, 0 + j, none⟩ = some u := fun j u hj => by
      have hj2 : (icells .i64 l)[j]? = some u := by
        unfold icells at hj ⊢
        rw [List.map_take, List.getElem?_take] at hj
        split at hj
        · exact hj
        · cases hj
      have hj3 := Hown.out.cells (g := g) rfl j u hj2
      have hp : ((⟨g, 0, none⟩ : Addr).add j) = ⟨g, 0 + j, none⟩ := by unfold Addr.add; split <;> simp_all
      rw [hp] at hj3
      exact (((Below.refl w.heap.size w).alloc (Nat.le_refl _) _).cell (p := ⟨g, 0 + j, none⟩) hgw).trans hj3
    have hu3 : ∀ j u, (icells .i64 (l.drop k))[j]? = some u → w.cell? ⟨g, k + j, none⟩ = some u := fun j u hj => by
      have hj2 : (icells .i64 l)[k + j]? = some u := by
        unfold icells at hj ⊢
        rw [List.map_drop, List.getElem?_drop] at hj
        exact hj
      have hj3 := Hown.out.cells (g := g) rfl _ u hj2
      have hp : ((⟨g, 0, none⟩ : Addr).add (k + j)) = ⟨g, k + j, none⟩ := by unfold Addr.add; split <;> simp_all
      rw [hp] at hj3
      exact hj3
    have hm1 : (icells .i64 (l.take k)).length = k := by rw [icells_length, List.length_take]; omega
    have hm3 : (icells .i64 (l.drop k)).length = l.length - k := by rw [icells_length, List.length_drop]
    have hq1 : 0 + k ≤ maxLen := (by unfold maxLen; omega)
    have hq2 : (0 + k) * 8 ≤ 140737488355328 := by omega
    have hq3 : w.heap.size ≤ (w.alloc (.cells #[] 3)).heap.size := by rw [World.size_alloc]; omega
    have hq4 : 0 + k + 1 ≤ maxLen := (by unfold maxLen; omega)
    have hq5 : (0 + k + 1) * 8 ≤ 140737488355328 := by omega
    have hq6 : 0 + k + 1 + (l.length - k) ≤ maxLen := (by unfold maxLen; omega)
    have hq7 : (0 + k + 1 + (l.length - k)) * 8 ≤ 140737488355328 := by omega
    have Q1 := hide hq1; have Q2 := hide hq2; have Q3 := hide hq3; have Q4 := hide hq4; have Q5 := hide hq5; have Q6 := hide hq6; have Q7 := hide hq7
    clear hq1 hq2 hq3 hq4 hq5 hq6 hq7
    have Hu1 := hide hu1; have Hu3 := hide hu3; have Hm1 := hide hm1; have Hm3 := hide hm3
    clear hu1 hu3 hm1 hm3
    by_cases hkl : k < l.length
    · obtain ⟨b, o, e1, hbB, s0⟩ := Hr.out.at_ (j := k) (by rw [icells_length]; exact hkl)
      cases e1
      rw [icells_get _ _ hkl, Nat.zero_add] at s0
      by_cases h1 : l[k] < x
      · have hlt' : ∀ j (h : j < l.length), j < k + 1 → l[j] < x := fun j hj hjk => by
          by_cases e : j = k
          · subst e; exact h1
          · exact hlt j hj (by omega)
        have Hlt := hide hlt'
        clear hlt hlt'
        generalize l[k] = y at *
        go_wp2
        go_round
        case rel => exact ⟨k + 1, by omega, by go_num, Hlt.out⟩
        case measure => simp [intOf]; omega
      · by_cases h2 : l[k] = x
        · have HS := hide (putL_same l k x hlt hkl h2)
          clear hlt
          rw [h2] at s0 h1
          clear h2
          go_wp2
          go_ret
          rw [HS.out]
          exact ⟨_, rfl, Hown.out, Below.refl _ _⟩
        · have HS := hide (putL_new l k x hk hlt (fun _ => ⟨h1, h2⟩))
          have e1 : (l[k] == x) = false := by rw [beq_eq_false_iff_ne]; exact h2
          clear hlt h2
          generalize l[k] = y at *
          go_wp2_with (first
            | (at_builtin; (refine wpList_catRd rfl _ _ _ rfl okI64 rfl Own0.out rfl Hu1.out Hm1.out one_icells Q1.out Q2.out Q3.out ?_); intro v1 w1 hown1 hg1; have Ho1 := hide hown1; have Hg1 := hide hg1; clear hown1 hg1)
            | (at_builtin; (refine wpList_pushG rfl _ _ _ rfl okI64 rfl Ho1.out #[.int .i64 x] rfl rfl rfl (by simp [Value.oneCell']) Q4.out Q5.out (Nat.le_trans Q3.out Hg1.out.g.size) ?_); intro v2 w2 hown2 hg2; have Ho2 := hide hown2; have Hg2 := hide (Hg1.out.trans hg2); have Hb2 := hide ((Below.refl w.heap.size w).alloc (Nat.le_refl _) (.cells #[] 3) |>.trans ((Hg1.out.trans hg2).toBelow Own0.out (by rw [World.size_alloc]; omega))); clear hown2 hg2)
            | (at_builtin; (refine wpList_catRd rfl _ _ _ rfl okI64 rfl Ho2.out rfl (fun j u hj => (Hb2.out.cell (p := ⟨g, k + j, none⟩) hgw).trans (Hu3.out j u hj)) Hm3.out one_icells Q6.out Q7.out Hb2.out.size ?_); intro v3 w3 hown3 hg3))
          go_ret
          have hb3 := (Below.refl w.heap.size w).alloc (Nat.le_refl _) (.cells #[] 3) |>.trans ((Hg2.out.trans hg3).toBelow Own0.out (by rw [World.size_alloc]; omega))
          refine ⟨_, rfl, ?_, hb3⟩
          rw [HS.out, icells_append, icells_append]
          have e : (l.take k ++ [x] ++ l.drop k).length = 0 + k + 1 + (l.length - k) := by simp; omega
          rw [e]
          exact own_base hown3 hbase
    · have HS := hide (putL_new l k x hk hlt (fun h => absurd h hkl))
      have hkl' : k = l.length := by omega
      have hnone : ∀ j u, (icells .i64 (l.drop k))[j]? = some u → False := fun j u hj => by
        have : (icells .i64 (l.drop k)).length = 0 := by rw [icells_length, List.length_drop]; omega
        rw [List.getElem?_eq_none (by omega)] at hj; cases hj
      have Hnone := hide hnone; clear hnone
      have hki : ¬ (k : Int) < (l.length : Int) := by omega
      clear hlt hkl hkl'
      by_cases hck : c = k
      · subst hck
        clear Hu3
        go_wp2_with (first
          | (at_builtin; (refine wpList_catRd rfl _ _ _ rfl okI64 rfl Own0.out rfl Hu1.out Hm1.out one_icells Q1.out Q2.out Q3.out ?_); intro v1 w1 hown1 hg1; have Ho1 := hide hown1; have Hg1 := hide hg1; clear hown1 hg1)
          | (at_builtin; (refine wpList_pushG rfl _ _ _ rfl okI64 rfl Ho1.out #[.int .i64 x] rfl rfl rfl (by simp [Value.oneCell']) Q4.out Q5.out (Nat.le_trans Q3.out Hg1.out.g.size) ?_); intro v2 w2 hown2 hg2; have Ho2 := hide hown2; have Hg2 := hide (Hg1.out.trans hg2); have Hb2 := hide ((Below.refl w.heap.size w).alloc (Nat.le_refl _) (.cells #[] 3) |>.trans ((Hg1.out.trans hg2).toBelow Own0.out (by rw [World.size_alloc]; omega))); clear hown2 hg2)
          | (at_builtin; refine wpList_catRd (news := []) rfl _ _ _ rfl okI64 rfl Ho2.out rfl (fun j u hj => by cases hj) rfl (fun u hu => by cases hu) Q4.out Q5.out Hb2.out.size ?_; intro v3 w3 hown3 hg3))
        go_ret
        have hb3 := (Below.refl w.heap.size w).alloc (Nat.le_refl _) (.cells #[] 3) |>.trans ((Hg2.out.trans hg3).toBelow Own0.out (by rw [World.size_alloc]; omega))
        refine ⟨_, rfl, ?_, hb3⟩
        have hdr : l.drop c = [] := List.drop_eq_nil_of_le (by omega)
        rw [HS.out, hdr, List.append_nil, icells_append]
        have e : (l.take c ++ [x]).length = 0 + c + 1 := by simp; omega
        rw [e]
        rw [List.append_nil] at hown3
        exact own_base hown3 hbase
      · clear Hu3
        go_wp2_with (first
          | (at_builtin; (refine wpList_catRd rfl _ _ _ rfl okI64 rfl Own0.out rfl Hu1.out Hm1.out one_icells Q1.out Q2.out Q3.out ?_); intro v1 w1 hown1 hg1; have Ho1 := hide hown1; have Hg1 := hide hg1; clear hown1 hg1)
          | (at_builtin; (refine wpList_pushG rfl _ _ _ rfl okI64 rfl Ho1.out #[.int .i64 x] rfl rfl rfl (by simp [Value.oneCell']) Q4.out Q5.out (Nat.le_trans Q3.out Hg1.out.g.size) ?_); intro v2 w2 hown2 hg2; have Ho2 := hide hown2; have Hg2 := hide (Hg1.out.trans hg2); have Hb2 := hide ((Below.refl w.heap.size w).alloc (Nat.le_refl _) (.cells #[] 3) |>.trans ((Hg1.out.trans hg2).toBelow Own0.out (by rw [World.size_alloc]; omega))); clear hown2 hg2)
          | (at_builtin; (refine wpList_catRd rfl _ _ _ rfl okI64 rfl Ho2.out rfl (fun j u hj => (Hnone.out j u hj).elim) Hm3.out one_icells Q6.out Q7.out Hb2.out.size ?_); intro v3 w3 hown3 hg3))
        go_ret
        have hb3 := (Below.refl w.heap.size w).alloc (Nat.le_refl _) (.cells #[] 3) |>.trans ((Hg2.out.trans hg3).toBelow Own0.out (by rw [World.size_alloc]; omega))
        refine ⟨_, rfl, ?_, hb3⟩
        rw [HS.out, icells_append, icells_append]
        have e : (l.take k ++ [x] ++ l.drop k).length = 0 + k + 1 + (l.length - k) := by simp; omega
        rw [e]
        exact own_base hown3 hbase
end Go.Proofs.YtgkjakoagdkpcaaGreatDoor
set_option linter.unusedSimpArgs false
set_option linter.unusedVariables false
set_option maxRecDepth 100000
namespace Go.Proofs.YtgkjakoagdkpcaaGreatDoor
open Go.RowKit

theorem cmp_isNaN (x : Int) (w : World) : Calls Tryz.prog 114 #[.int .i64 x] w fun e w' => e = .returned (.bool false) ∧ w' = w := by
  go_enter Tryz.func114, Tryz.ntmps114
  go_wp2
  go_ret
  exact ⟨by simp, rfl⟩
theorem cmp_Less (x y : Int) (w : World) : Calls Tryz.prog 97 #[.int .i64 x, .int .i64 y] w fun e w' => e = .returned (.bool (decide (x < y))) ∧ w' = w := by
  go_enter Tryz.func97, Tryz.ntmps97
  go_wp2_with (go_at_call 114; refine (cmp_isNaN _ _).mono ?_; rintro e w' ⟨rfl, rfl⟩)
  go_ret
  exact ⟨rfl, rfl⟩
set_option maxHeartbeats 3200000 in
theorem ins2 (g base : Nat) (x y : Int) (w : World) (hk : Bk w g 3 #[.int .i64 x, .int .i64 y]) (hbg : base ≤ g) :
    Calls Tryz.prog 91 #[.slice (some ⟨g, 0, none⟩) 2 2, .int .i64 0, .int .i64 2] w fun e w' => e = .returned (.tuple #[]) ∧ Bk w' g 3 #[.int .i64 (min x y), .int .i64 (max x y)] ∧ Below base w w' := by
  have Hk := hide hk; clear hk
  go_enter Tryz.func91, Tryz.ntmps91
  go_wp2
  go_loopw [6] (fun vi wr => Below base w wr ∧ ((vi = .int .i64 1 ∧ Bk wr g 3 #[.int .i64 x, .int .i64 y]) ∨ (vi = .int .i64 2 ∧ Bk wr g 3 #[.int .i64 (min x y), .int .i64 (max x y)]))) (fun vi _ => 2 - (intOf vi).toNat)
  case atStart => exact ⟨Below.refl _ _, .inl ⟨rfl, Hk.out⟩⟩
  case round =>
    obtain ⟨hb, ⟨rfl, hk⟩ | ⟨rfl, hk⟩⟩ := hrel
    · have Hb := hide hb; have Hk1 := hide hk; clear hb hk
      go_wp2
      go_loopw [7] (fun vj wi => Below base w wi ∧ ((vj = .int .i64 1 ∧ Bk wi g 3 #[.int .i64 x, .int .i64 y]) ∨ (vj = .int .i64 0 ∧ y < x ∧ Bk wi g 3 #[.int .i64 y, .int .i64 x]))) (fun vj _ => (intOf vj).toNat)
      case atStart => exact ⟨Hb.out, .inl ⟨rfl, Hk1.out⟩⟩
      case round =>
        obtain ⟨hb, ⟨rfl, hk⟩ | ⟨rfl, hlt, hk⟩⟩ := hrel
        · have c0 := hk.cell 0
          have c1 := hk.cell 1
          have f0 := hk.frozen 0
          have f1 := hk.frozen 1
          have hgl := hk.lt
          have Hbi := hide hb; have Hki := hide hk; clear hb hk
          by_cases hyx : y < x
          · have hd : decide (y < x) = true := decide_eq_true hyx
            have hl := fun w => cmp_Less y x w
            simp only [hd] at hl
            have Hl := Lib.hid hl; have Hyx := hide hyx; clear hl hd hyx
            go_wp2
            go_quiet ((go_at_call 97; exact Calls.quiet_of_same (Hl.out _)))
            go_wp2
            go_region
            all_goals go_wp2
            go_roundw
            case rel => exact ⟨(((below_drewN Hbi.out _).setCell (p := ⟨g, 1, none⟩) hbg _).setCell (p := ⟨g, 0, none⟩) hbg _), .inr ⟨rfl, Hyx.out, ((Hki.out.drewN _).set 1 _).set 0 _⟩⟩
            case measure => simp [intOf]
          · have hd : decide (y < x) = false := decide_eq_false hyx
            have hl := fun w => cmp_Less y x w
            simp only [hd] at hl
            have Hl := Lib.hid hl; have hm1 : min x y = x := by omega
            have hm2 : max x y = y := by omega
            have Hm1 := hide hm1; have Hm2 := hide hm2; clear hl hd hyx hm1 hm2
            go_wp2
            go_quiet ((go_at_call 97; exact Calls.quiet_of_same (Hl.out _)))
            go_wp2
            go_roundw
            case rel => exact ⟨below_drewN Hbi.out _, .inr ⟨rfl, by rw [Hm1.out, Hm2.out]; exact Hki.out.drewN _⟩⟩
            case measure => simp [intOf]
        · have hm1 : min x y = y := by omega
          have hm2 : max x y = x := by omega
          have Hbi := hide hb; have Hki := hide hk; have Hm1 := hide hm1; have Hm2 := hide hm2; clear hb hk hm1 hm2 hlt
          go_wp2
          go_quiet (fail)
          go_wp2
          go_roundw
          case rel => exact ⟨below_drewN Hbi.out _, .inr ⟨rfl, by rw [Hm1.out, Hm2.out]; exact Hki.out.drewN _⟩⟩
          case measure => simp [intOf]
    · have Hb := hide hb; have Hk1 := hide hk; clear hb hk
      go_wp2
      go_end0
      exact ⟨rfl, Hk1.out, Hb.out⟩
theorem bits_Len64_2 (w : World) : Calls Tryz.prog 101 #[.int .u64 2] w fun e w' => (∃ n, e = .returned (.int .i64 n)) ∧ w' = w := by
  go_enter Tryz.func101, Tryz.ntmps101
  go_wp2
  go_ret
  exact ⟨⟨_, rfl⟩, rfl⟩
theorem bits_Len_2 (w : World) : Calls Tryz.prog 85 #[.int .u64 2] w fun e w' => (∃ n, e = .returned (.int .i64 n)) ∧ w' = w := by
  go_enter Tryz.func85, Tryz.ntmps85
  go_wp2_with (go_at_call 101; refine (bits_Len64_2 _).mono ?_; rintro e w' ⟨⟨n, rfl⟩, rfl⟩)
  go_ret
  exact ⟨⟨_, rfl⟩, rfl⟩
set_option maxHeartbeats 1600000 in
theorem pdq2 (g base : Nat) (x y lim : Int) (w : World) (hk : Bk w g 3 #[.int .i64 x, .int .i64 y]) (hbg : base ≤ g) :
    Calls Tryz.prog 84 #[.slice (some ⟨g, 0, none⟩) 2 2, .int .i64 0, .int .i64 2, .int .i64 lim] w fun e w' => e = .returned (.tuple #[]) ∧ Bk w' g 3 #[.int .i64 (min x y), .int .i64 (max x y)] ∧ Below base w w' := by
  have HC := hide (ins2 g base x y w hk hbg); clear hk
  go_enter Tryz.func84, Tryz.ntmps84
  go_wp2
  go_loopw [1, 2] (fun a b wr => a = .int .i64 0 ∧ b = .int .i64 2 ∧ wr = w) (fun _ _ _ => 0)
  case atStart => exact ⟨rfl, rfl, rfl⟩
  case round =>
    obtain ⟨rfl, rfl, rfl⟩ := hrel
    go_wp2_with (go_at_call 91; refine (HC.out).mono ?_; rintro e w1 ⟨rfl, hk1, hb1⟩)
    (try simp only [Exit.inBlock, Exit.then]); refine bodyPost_ret (results_none rfl _ _ _) rfl ?_
    exact ⟨rfl, hk1, hb1⟩
theorem sort2 (g base : Nat) (x y : Int) (w : World) (hk : Bk w g 3 #[.int .i64 x, .int .i64 y]) (hbg : base ≤ g) :
    Calls Tryz.prog 65 #[.slice (some ⟨g, 0, none⟩) 2 2] w fun e w' => e = .returned (.tuple #[]) ∧ Bk w' g 3 #[.int .i64 (min x y), .int .i64 (max x y)] ∧ Below base w w' := by
  have HC := Lib.hid (fun lim => pdq2 g base x y lim w hk hbg); clear hk
  go_enter Tryz.func65, Tryz.ntmps65
  go_wp2_with (first
    | (go_at_call 85; refine (bits_Len_2 _).mono ?_; rintro e w' ⟨⟨n, rfl⟩, rfl⟩)
    | (go_at_call 84; refine (HC.out _).mono ?_; rintro e w1 ⟨rfl, hk1, hb1⟩))
  go_end0
  exact ⟨rfl, hk1, hb1⟩
theorem own_of_bkN {w : World} {g base n : Nat} {t : TypeId} {cs : Array Value} (hk : Bk w g t cs) (hb : base ≤ g) (hn : n ≤ cs.size) (hm : cs.size ≤ maxLen) : w.ownsRow base t 1 (.slice (some ⟨g, 0, none⟩) n cs.size) n (cs.toList.take n) :=
  ⟨by simp; omega, .inr ⟨g, cs.size, cs, rfl, hb, hk, hn, hm, by omega, by rw [Nat.mul_one]⟩⟩
set_option maxHeartbeats 1600000 in
theorem compact2 (g base : Nat) (x y : Int) (w : World) (hk : Bk w g 3 #[.int .i64 x, .int .i64 y]) (hbg : base ≤ g) :
    Calls Tryz.prog 66 #[.slice (some ⟨g, 0, none⟩) 2 2] w fun e w' => ∃ v, e = .returned v ∧ w'.ownsRow base 3 1 v (if x = y then [x] else [x, y]).length (icells .i64 (if x = y then [x] else [x, y])) ∧ Below base w w' := by
  have c0 := hk.cell 0
  have c1 := hk.cell 1
  have f0 := hk.frozen 0
  have f1 := hk.frozen 1
  have hgl := hk.lt
  have Hk := hide hk; clear hk
  by_cases hxy : x = y
  · have hL : (if x = y then [x] else [x, y]) = [x] := if_pos hxy
    rw [hL]
    clear hL
    subst hxy
    go_enter Tryz.func66, Tryz.ntmps66
    go_wp2
    go_loopw [3] (fun k wr => k = .int .i64 1 ∧ ∃ q, wr = w.drewN q) (fun _ _ => 0)
    case atStart => exact ⟨rfl, 0, rfl⟩
    case round =>
      obtain ⟨rfl, q, rfl⟩ := hrel
      go_wp2
      go_quiet (fail)
      go_wp2
      go_loopw [3, 5] (fun a b wi => a = .int .i64 1 ∧ b = .int .i64 1 ∧ ∃ q, wi = w.drewN q) (fun _ _ _ => 0)
      case atStart => exact ⟨rfl, rfl, _, by first | rfl | exact World.drewN_drewN _ _ _⟩
      case round =>
        obtain ⟨rfl, rfl, q, rfl⟩ := hrel
        have hk2 := Hk.out.drewN q
        have hz : ∀ w : World, (zeroValue 3).run Tryz.prog w = .ok (.int .i64 0) w := fun w => by kernel_rfl
        have hcc : ∀ j, j < 1 → ((w.drewN q).cell? ⟨g, 1 + j, none⟩).isSome = true := fun j hj => by
          have e : j = 0 := by omega
          subst e
          rw [show (1 + 0) = 1 from rfl, hk2.cell 1]
          rfl
        have hcl : ∀ ty, (Builtin.clear_ #[29] ty #[.slice (some ⟨g, 1, none⟩) 1 1]).run Tryz.prog (w.drewN q) = .ok (.tuple #[]) ((w.drewN q).setCells g 1 (List.replicate 1 (.int .i64 0))) :=
          fun ty => Lib.run_clear_slice (w.drewN q) 29 3 ty (.int .i64 0) Tryz.underlying29 hz rfl rfl g 1 1 1 (by omega) hcc (fun j hj => hk2.frozen _)
        clear hcc hz
        have Hk2 := hide hk2; clear hk2
        go_wp2_with (simp only [hcl])
        go_ret
        exact ⟨_, rfl, own_of_bkN (n := 1) (Hk2.out.set 1 (.int .i64 0)) hbg (by simp) (by unfold maxLen; simp), (below_drewN (Below.refl _ _) _).setCell (p := ⟨g, 1, none⟩) hbg _⟩
  · have hL : (if x = y then [x] else [x, y]) = [x, y] := if_neg hxy
    rw [hL]
    have hyx : ¬ y = x := fun h => hxy h.symm
    have hb1 : (y == x) = false := beq_eq_false_iff_ne.2 hyx
    clear hL hxy hyx
    go_enter Tryz.func66, Tryz.ntmps66
    go_wp2
    go_loopw [3] (fun k wr => ∃ j q : Nat, (j = 1 ∨ j = 2) ∧ k = .int .i64 j ∧ wr = w.drewN q) (fun k _ => 2 - (intOf k).toNat)
    case atStart => exact ⟨1, 0, .inl rfl, rfl, rfl⟩
    case round =>
      obtain ⟨j, q, rfl | rfl, rfl, rfl⟩ := hrel
      · go_wp2
        go_quiet (fail)
        go_wp2
        go_roundw
        case rel => exact ⟨2, _, .inr rfl, by go_num, rfl⟩
        case measure => simp [intOf]
      · go_wp2
        go_ret
        exact ⟨_, rfl, own_of_bkN (Hk.out.drewN _) hbg (by simp) (by unfold maxLen; simp), below_drewN (Below.refl _ _) _⟩
theorem next_10 {n a : Int} : nextI ⟨10, n⟩ a = [n] := rfl
theorem next_11 {n a : Int} : nextI ⟨11, n⟩ a = putL [a + 1] n := rfl
theorem next_no {o n a : Int} (h : o = 13 ∨ o = 14 ∨ o = 16 ∨ o = 18) : nextI ⟨o, n⟩ a = [] := by
  unfold nextI; dsimp only; rw [if_neg (by omega), if_neg (by omega), if_pos h]
theorem next_go {o n a : Int} (h : o ≠ 10) (h2 : o ≠ 11) (h3 : o ≠ 13) (h4 : o ≠ 14) (h5 : o ≠ 16) (h6 : o ≠ 18) : nextI ⟨o, n⟩ a = [a + 1] := by
  unfold nextI; dsimp only; rw [if_neg (by omega), if_neg (by omega), if_neg (by omega)]
theorem put_sort {x y : Int} : putL [x] y = if min x y = max x y then [min x y] else [min x y, max x y] := by
  simp only [putL]
  by_cases h1 : x < y
  · rw [if_pos h1, if_neg (by omega), show min x y = x by omega, show max x y = y by omega]
  · rw [if_neg h1]
    by_cases h2 : x = y
    · rw [if_pos h2, if_pos (by omega), show min x y = x by omega]
    · rw [if_neg h2, if_neg (by omega), show min x y = y by omega, show max x y = x by omega]
theorem int_ne {x y : Int} (h : x ≠ y) : (x == y) = false := beq_eq_false_iff_ne.2 h
set_option maxHeartbeats 3200000 in
theorem spec_l5Next (o n a : Int) (w : World) (h0 : 0 ≤ a) (h3 : a ≤ 300) :
    Calls Tryz.prog 39 #[.agg #[.int .i64 o, .int .i64 n], .int .i64 a] w fun e w' => ∃ v, e = .returned v ∧ w'.ownsRow w.heap.size 3 1 v (nextI ⟨o, n⟩ a).length (icells .i64 (nextI ⟨o, n⟩ a)) ∧ Below w.heap.size w w' := by
  have hb := (Below.refl w.heap.size w).alloc (Nat.le_refl _) (.cells #[.int .i64 o, .int .i64 n] 41)
  have hlit : ∀ x : Int, ((w.alloc (.cells #[.int .i64 o, .int .i64 n] 41)).alloc (.cells #[.int .i64 x] 3)).ownsRow w.heap.size 3 1 (.slice (some ⟨w.heap.size + 1, 0, none⟩) 1 1) 1 (icells .i64 [x]) := fun x => by
    have := World.ownsRow_lit (base := w.heap.size) (e := 3) (size := 1) (w.alloc (.cells #[.int .i64 o, .int .i64 n] 41)) #[.int .i64 x] 1 (by rw [World.size_alloc]; omega) (by unfold maxLen; omega) rfl
    rw [World.size_alloc] at this
    exact this
  have hb2 := fun x : Int => hb.alloc (by rw [World.size_alloc]; omega) (.cells #[.int .i64 x] 3)
  have hp := fun x : Int => spec_l1PutH _ [x] n _ w.heap.size (hlit x) (hb2 x).size (by simp)
  have Hb := hide hb; have Hlit := Lib.hid hlit; have Hb2 := Lib.hid hb2; have Hp := Lib.hid hp
  clear hb hlit hb2 hp
  by_cases c1 : o = 10
  · subst c1
    rw [next_10]
    go_enter Tryz.func39, Tryz.ntmps39
    go_wp2
    go_ret
    exact ⟨_, rfl, Hlit.out n, Hb2.out n⟩
  by_cases c2 : o = 11
  · subst c2
    rw [next_11]
    have hp := Hp.out (a + 1)
    generalize putL [a + 1] n = L at *
    have HP := hide hp; clear hp Hp
    go_enter Tryz.func39, Tryz.ntmps39
    go_wp2_with (go_at_call 70; refine (HP.out).mono ?_; rintro e w5 ⟨v5, rfl, hown5, hb5⟩)
    go_ret
    exact ⟨_, rfl, hown5, (Hb2.out (a + 1)).trans (hb5.mono (Hb2.out (a + 1)).size)⟩
  by_cases c3 : o = 13 ∨ o = 14 ∨ o = 16 ∨ o = 18
  · rw [next_no c3]
    rcases c3 with rfl | rfl | rfl | rfl
    all_goals
      go_enter Tryz.func39, Tryz.ntmps39
      go_wp2
      go_ret
      exact ⟨_, rfl, World.ownsRow_nil _ _ _ _, Hb.out⟩
  · have d3 : o ≠ 13 := fun h => c3 (.inl h)
    have d4 : o ≠ 14 := fun h => c3 (.inr (.inl h))
    have d5 : o ≠ 16 := fun h => c3 (.inr (.inr (.inl h)))
    have d6 : o ≠ 18 := fun h => c3 (.inr (.inr (.inr h)))
    rw [next_go c1 c2 d3 d4 d5 d6]
    have b1 := int_ne c1; have b2 := int_ne c2; have b3 := int_ne d3; have b4 := int_ne d4; have b5 := int_ne d5; have b6 := int_ne d6
    clear c1 c2 c3 d3 d4 d5 d6
    go_enter Tryz.func39, Tryz.ntmps39
    go_wp2
    go_ret
    exact ⟨_, rfl, Hlit.out (a + 1), Hb2.out (a + 1)⟩
set_option maxHeartbeats 3200000 in
theorem impl_nextOf (o n a : Int) (w : World) (h0 : 0 ≤ a) (h3 : a ≤ 300) :
    Calls Tryz.prog 33 #[.agg #[.int .i64 o, .int .i64 n], .int .i64 a] w fun e w' => ∃ v, e = .returned v ∧ w'.ownsRow w.heap.size 3 1 v (nextI ⟨o, n⟩ a).length (icells .i64 (nextI ⟨o, n⟩ a)) ∧ Below w.heap.size w w' := by
  have hb := (Below.refl w.heap.size w).alloc (Nat.le_refl _) (.cells #[.int .i64 o, .int .i64 n] 41)
  have hlit : ∀ x : Int, ((w.alloc (.cells #[.int .i64 o, .int .i64 n] 41)).alloc (.cells #[.int .i64 x] 3)).ownsRow w.heap.size 3 1 (.slice (some ⟨w.heap.size + 1, 0, none⟩) 1 1) 1 (icells .i64 [x]) := fun x => by
    have := World.ownsRow_lit (base := w.heap.size) (e := 3) (size := 1) (w.alloc (.cells #[.int .i64 o, .int .i64 n] 41)) #[.int .i64 x] 1 (by rw [World.size_alloc]; omega) (by unfold maxLen; omega) rfl
    rw [World.size_alloc] at this
    exact this
  have hb2 := fun x : Int => hb.alloc (by rw [World.size_alloc]; omega) (.cells #[.int .i64 x] 3)
  have Hb := hide hb; have Hlit := Lib.hid hlit; have Hb2 := Lib.hid hb2
  clear hlit hb2
  by_cases c1 : o = 10
  · subst c1
    rw [next_10]
    clear hb
    go_enter Tryz.func33, Tryz.ntmps33
    go_wp2
    go_ret
    exact ⟨_, rfl, Hlit.out n, Hb2.out n⟩
  by_cases c2 : o = 11
  · subst c2
    rw [next_11, put_sort]
    have hk := Bk.new (w.alloc (.cells #[.int .i64 11, .int .i64 n] 41)) 3 #[.int .i64 (a + 1), .int .i64 n]
    have hb3 := hb.alloc (by rw [World.size_alloc]; omega) (.cells #[.int .i64 (a + 1), .int .i64 n] 3)
    rw [World.size_alloc] at hk
    have hs := sort2 (w.heap.size + 1) w.heap.size (a + 1) n _ hk (by omega)
    have hc := fun W (hW : Bk W (w.heap.size + 1) 3 #[.int .i64 (min (a + 1) n), .int .i64 (max (a + 1) n)]) => compact2 (w.heap.size + 1) w.heap.size (min (a + 1) n) (max (a + 1) n) W hW (by omega)
    generalize (if min (a + 1) n = max (a + 1) n then [min (a + 1) n] else [min (a + 1) n, max (a + 1) n]) = L at *
    have HS := hide hs; have HC := Lib.hid hc; have Hb3 := hide hb3; clear hs hc hk hb hb3
    go_enter Tryz.func33, Tryz.ntmps33
    go_wp2_with (first
      | (go_at_call 65; refine (HS.out).mono ?_; rintro e w5 ⟨rfl, hk5, hb5⟩; have HC5 := hide (HC.out _ hk5); have Hb5 := hide (Hb3.out.trans hb5); clear hk5 hb5)
      | (go_at_call 66; refine (HC5.out).mono ?_; rintro e w6 ⟨v, rfl, hown6, hb6⟩))
    go_ret
    exact ⟨_, rfl, hown6, Hb5.out.trans hb6⟩
  clear hb
  by_cases c3 : o = 13 ∨ o = 14 ∨ o = 16 ∨ o = 18
  · rw [next_no c3]
    rcases c3 with rfl | rfl | rfl | rfl
    all_goals
      go_enter Tryz.func33, Tryz.ntmps33
      go_wp2
      go_ret
      exact ⟨_, rfl, World.ownsRow_nil _ _ _ _, Hb.out⟩
  · have d3 : o ≠ 13 := fun h => c3 (.inl h)
    have d4 : o ≠ 14 := fun h => c3 (.inr (.inl h))
    have d5 : o ≠ 16 := fun h => c3 (.inr (.inr (.inl h)))
    have d6 : o ≠ 18 := fun h => c3 (.inr (.inr (.inr h)))
    rw [next_go c1 c2 d3 d4 d5 d6]
    have b1 := int_ne c1; have b2 := int_ne c2; have b3 := int_ne d3; have b4 := int_ne d4; have b5 := int_ne d5; have b6 := int_ne d6
    clear c1 c2 c3 d3 d4 d5 d6
    go_enter Tryz.func33, Tryz.ntmps33
    go_wp2
    go_ret
    exact ⟨_, rfl, Hlit.out (a + 1), Hb2.out (a + 1)⟩
end Go.Proofs.YtgkjakoagdkpcaaGreatDoor
