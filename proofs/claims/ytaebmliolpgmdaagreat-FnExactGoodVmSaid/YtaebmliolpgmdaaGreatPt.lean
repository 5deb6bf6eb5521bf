
/- l1Put: what the Go text returns. No condition. -/
import Derived.Test.YtaebmliolpgmdaaGreatGm
import Derived.Test.YtaebmliolpgmdaaGreatP2
set_option linter.unusedSimpArgs false
set_option linter.unusedVariables false
set_option maxRecDepth 100000
namespace Go.Proofs.YtaebmliolpgmdaaGreat
open Go.RowKit

set_option maxHeartbeats 3200000 in
theorem spec_l1Put (v : Value) (l : List Int) (x : Int) (w : World) (base : Nat) (hown : w.ownsRow base 3 1 v l.length (icells .i64 l)) (hbase : base ≤ w.heap.size) (hl : l.length ≤ 1000) :
    Calls Tryz.prog 82 #[v, .int .i64 x] w fun e w' => ∃ v', e = .returned v' ∧ w'.ownsRow base 3 1 v' (putL l x).length (icells .i64 (putL l x)) ∧ Below w.heap.size w w' := by
  have Own0 := hide (own0 w)
  rcases id hown.2 with ⟨rfl, h0⟩ | ⟨g, c, cur, rfl, hg, hh, hnc, hcm, _⟩
  · obtain rfl := List.eq_nil_of_length_eq_zero h0
    clear h0 hown
    go_enter Tryz.func82, Tryz.ntmps82
    go_wp2
    go_loop [5] (fun i => i = .int .i64 0) (fun i => 0)
    case atStart => rfl
    case round =>
      obtain rfl := hrel
      go_wp2_with (first
        | (at_builtin; refine wpList_catNone rfl _ _ _ rfl okI64 rfl Own0.out rfl ?_)
        | (at_builtin; refine wpList_pushG rfl _ _ _ rfl okI64 rfl Own0.out #[.int .i64 x] rfl (by rw [World.size_alloc]) rfl (by simp [Value.oneCell']) (by unfold maxLen; omega) (by omega) (by rw [World.size_alloc]; omega) ?_; intro v2 w2 hown2 hg2; have Ho2 := hide hown2; have Hg2 := hide hg2; clear hown2 hg2)
        | (at_builtin; refine wpList_catNone rfl _ _ _ rfl okI64 rfl Ho2.out rfl ?_))
      go_ret
      have hb3 := (Below.refl w.heap.size w).alloc (Nat.le_refl _) (.cells #[] 3) |>.trans (Hg2.out.toBelow Own0.out (by rw [World.size_alloc]; omega))
      exact ⟨_, rfl, own_base Ho2.out hbase, hb3⟩
  have Hr := hide (Rd.of_own hown)
  have hgw : g < w.heap.size := (Array.getElem?_eq_some_iff.1 hh).1
  have Hown := hide hown
  clear hown hh
  go_enter Tryz.func82, Tryz.ntmps82
  go_wp2
  go_loop [5] (fun i => ∃ k : Nat, k ≤ l.length ∧ i = .int .i64 k ∧ ∀ j (h : j < l.length), j < k → l[j] < x) (fun i => l.length - (intOf i).toNat)
  case atStart => exact ⟨0, by omega, rfl, fun j _ h => by omega⟩
  case round =>
    obtain ⟨k, hk, rfl, hlt⟩ := hrel
    have hu1 : ∀ j u, (icells .i64 (l.take k))[j]? = some u → (w.alloc (.cells #[] 3)).cell? ⟨g, 0 + j, none⟩ = some u := fun j u hj => by
      have hj2 : (icells .i64 l)[j]? = some u := by
        unfold icells at hj ⊢
        rw [List.map_take, List.getElem?_take] at hj
        split at hj
        · exact hj
        · cases hj
      have hj3 := Hown.out.cells (g := g) rfl j u hj2
      have hp : ((⟨g, 0, none⟩ : Addr).add j) = ⟨g, 0 + j, none⟩ := by unfold Addr.add; split <;> simp_all
      rw [hp] at hj3
      exact (((Below.refl w.heap.size w).alloc (Nat.le_refl _) _).cell (p := ⟨g, 0 + j, none⟩) hgw).trans hj3
    have hu3 : ∀ j u, (icells .i64 (l.drop k))[j]? = some u → w.cell? ⟨g, k + j, none⟩ = some u := fun j u hj => by
      have hj2 : (icells .i64 l)[k + j]? = some u := by
        unfold icells at hj ⊢
        rw [List.map_drop, List.getElem?_drop] at hj
        exact hj
      have hj3 := Hown.out.cells (g := g) rfl _ u hj2
      have hp : ((⟨g, 0, none⟩ : Addr).add (k + j)) = ⟨g, k + j, none⟩ := by unfold Addr.add; split <;> simp_all
      rw [hp] at hj3
      exact hj3
    have hm1 : (icells .i64 (l.take k)).length = k := by rw [icells_length, List.length_take]; omega
    have hm3 : (icells .i64 (l.drop k)).length = l.length - k := by rw [icells_length, List.length_drop]
    have hq1 : 0 + k ≤ maxLen := (by unfold maxLen; omega)
    have hq2 : (0 + k) * 8 ≤ 140737488355328 := by omega
    have hq3 : w.heap.size ≤ (w.alloc (.cells #[] 3)).heap.size := by rw [World.size_alloc]; omega
    have hq4 : 0 + k + 1 ≤ maxLen := (by unfold maxLen; omega)
    have hq5 : (0 + k + 1) * 8 ≤ 140737488355328 := by omega
    have hq6 : 0 + k + 1 + (l.length - k) ≤ maxLen := (by unfold maxLen; omega)
    have hq7 : (0 + k + 1 + (l.length - k)) * 8 ≤ 140737488355328 := by omega
    have Q1 := hide hq1; have Q2 := hide hq2; have Q3 := hide hq3; have Q4 := hide hq4; have Q5 := hide hq5; have Q6 := hide hq6; have Q7 := hide hq7
    clear hq1 hq2 hq3 hq4 hq5 hq6 hq7
    have Hu1 := hide hu1; have Hu3 := hide hu3; have Hm1 := hide hm1; have Hm3 := hide hm3
    clear hu1 hu3 hm1 hm3
    by_cases hkl : k < l.length
    · obtain ⟨b, o, e1, hbB, s0⟩ := Hr.out.at_ (j := k) (by rw [icells_length]; exact hkl)
      cases e1
      rw [icells_get _ _ hkl, Nat.zero_add] at s0
      by_cases h1 : l[k] < x
      · have hlt' : ∀ j (h : j < l.length), j < k + 1 → l[j] < x := fun j hj hjk => by
          by_cases e : j = k
          · subst e; exact h1
          · exact hlt j hj (by omega)
        have Hlt := hide hlt'
        clear hlt hlt'
        generalize l[k] = y at *
        go_wp2
        go_round
        case rel => exact ⟨k + 1, by omega, by go_num, Hlt.out⟩
        case measure => simp [intOf]; omega
      · by_cases h2 : l[k] = x
        · have HS := hide (putL_same l k x hlt hkl h2)
          clear hlt
          rw [h2] at s0 h1
          clear h2
          go_wp2
          go_ret
          rw [HS.out]
          exact ⟨_, rfl, Hown.out, Below.refl _ _⟩
        · have HS := hide (putL_new l k x hk hlt (fun _ => ⟨h1, h2⟩))
          have e1 : (l[k] == x) = false := by rw [beq_eq_false_iff_ne]; exact h2
          clear hlt h2
          generalize l[k] = y at *
          go_wp2_with (first
            | (at_builtin; (refine wpList_catRd rfl _ _ _ rfl okI64 rfl Own0.out rfl Hu1.out Hm1.out one_icells Q1.out Q2.out Q3.out ?_); intro v1 w1 hown1 hg1; have Ho1 := hide hown1; have Hg1 := hide hg1; clear hown1 hg1)
            | (at_builtin; (refine wpList_pushG rfl _ _ _ rfl okI64 rfl Ho1.out #[.int .i64 x] rfl rfl rfl (by simp [Value.oneCell']) Q4.out Q5.out (Nat.le_trans Q3.out Hg1.out.g.size) ?_); intro v2 w2 hown2 hg2; have Ho2 := hide hown2; have Hg2 := hide (Hg1.out.trans hg2); have Hb2 := hide ((Below.refl w.heap.size w).alloc (Nat.le_refl _) (.cells #[] 3) |>.trans ((Hg1.out.trans hg2).toBelow Own0.out (by rw [World.size_alloc]; omega))); clear hown2 hg2)
            | (at_builtin; (refine wpList_catRd rfl _ _ _ rfl okI64 rfl Ho2.out rfl (fun j u hj => (Hb2.out.cell (p := ⟨g, k + j, none⟩) hgw).trans (Hu3.out j u hj)) Hm3.out one_icells Q6.out Q7.out Hb2.out.size ?_); intro v3 w3 hown3 hg3))
          go_ret
          have hb3 := (Below.refl w.heap.size w).alloc (Nat.le_refl _) (.cells #[] 3) |>.trans ((Hg2.out.trans hg3).toBelow Own0.out (by rw [World.size_alloc]; omega))
          refine ⟨_, rfl, ?_, hb3⟩
          rw [HS.out, icells_append, icells_append]
          have e : (l.take k ++ [x] ++ l.drop k).length = 0 + k + 1 + (l.length - k) := by simp; omega
          rw [e]
          exact own_base hown3 hbase
    · have HS := hide (putL_new l k x hk hlt (fun h => absurd h hkl))
      have hkl' : k = l.length := by omega
      have hnone : ∀ j u, (icells .i64 (l.drop k))[j]? = some u → False := fun j u hj => by
        have : (icells .i64 (l.drop k)).length = 0 := by rw [icells_length, List.length_drop]; omega
        rw [List.getElem?_eq_none (by omega)] at hj; cases hj
      have Hnone := hide hnone; clear hnone
      have hki : ¬ (k : Int) < (l.length : Int) := by omega
      clear hlt hkl hkl'
      by_cases hck : c = k
      · subst hck
        clear Hu3
        go_wp2_with (first
          | (at_builtin; (refine wpList_catRd rfl _ _ _ rfl okI64 rfl Own0.out rfl Hu1.out Hm1.out one_icells Q1.out Q2.out Q3.out ?_); intro v1 w1 hown1 hg1; have Ho1 := hide hown1; have Hg1 := hide hg1; clear hown1 hg1)
          | (at_builtin; (refine wpList_pushG rfl _ _ _ rfl okI64 rfl Ho1.out #[.int .i64 x] rfl rfl rfl (by simp [Value.oneCell']) Q4.out Q5.out (Nat.le_trans Q3.out Hg1.out.g.size) ?_); intro v2 w2 hown2 hg2; have Ho2 := hide hown2; have Hg2 := hide (Hg1.out.trans hg2); have Hb2 := hide ((Below.refl w.heap.size w).alloc (Nat.le_refl _) (.cells #[] 3) |>.trans ((Hg1.out.trans hg2).toBelow Own0.out (by rw [World.size_alloc]; omega))); clear hown2 hg2)
          | (at_builtin; refine wpList_catRd (news := []) rfl _ _ _ rfl okI64 rfl Ho2.out rfl (fun j u hj => by cases hj) rfl (fun u hu => by cases hu) Q4.out Q5.out Hb2.out.size ?_; intro v3 w3 hown3 hg3))
        go_ret
        have hb3 := (Below.refl w.heap.size w).alloc (Nat.le_refl _) (.cells #[] 3) |>.trans ((Hg2.out.trans hg3).toBelow Own0.out (by rw [World.size_alloc]; omega))
        refine ⟨_, rfl, ?_, hb3⟩
        have hdr : l.drop c = [] := List.drop_eq_nil_of_le (by omega)
        rw [HS.out, hdr, List.append_nil, icells_append]
        have e : (l.take c ++ [x]).length = 0 + c + 1 := by simp; omega
        rw [e]
        rw [List.append_nil] at hown3
        exact own_base hown3 hbase
      · clear Hu3
        go_wp2_with (first
          | (at_builtin; (refine wpList_catRd rfl _ _ _ rfl okI64 rfl Own0.out rfl Hu1.out Hm1.out one_icells Q1.out Q2.out Q3.out ?_); intro v1 w1 hown1 hg1; have Ho1 := hide hown1; have Hg1 := hide hg1; clear hown1 hg1)
          | (at_builtin; (refine wpList_pushG rfl _ _ _ rfl okI64 rfl Ho1.out #[.int .i64 x] rfl rfl rfl (by simp [Value.oneCell']) Q4.out Q5.out (Nat.le_trans Q3.out Hg1.out.g.size) ?_); intro v2 w2 hown2 hg2; have Ho2 := hide hown2; have Hg2 := hide (Hg1.out.trans hg2); have Hb2 := hide ((Below.refl w.heap.size w).alloc (Nat.le_refl _) (.cells #[] 3) |>.trans ((Hg1.out.trans hg2).toBelow Own0.out (by rw [World.size_alloc]; omega))); clear hown2 hg2)
          | (at_builtin; (refine wpList_catRd rfl _ _ _ rfl okI64 rfl Ho2.out rfl (fun j u hj => (Hnone.out j u hj).elim) Hm3.out one_icells Q6.out Q7.out Hb2.out.size ?_); intro v3 w3 hown3 hg3))
        go_ret
        have hb3 := (Below.refl w.heap.size w).alloc (Nat.le_refl _) (.cells #[] 3) |>.trans ((Hg2.out.trans hg3).toBelow Own0.out (by rw [World.size_alloc]; omega))
        refine ⟨_, rfl, ?_, hb3⟩
        rw [HS.out, icells_append, icells_append]
        have e : (l.take k ++ [x] ++ l.drop k).length = 0 + k + 1 + (l.length - k) := by simp; omega
        rw [e]
        exact own_base hown3 hbase
end Go.Proofs.YtaebmliolpgmdaaGreat
