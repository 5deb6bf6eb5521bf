
/- evalPure: what the Go text returns. No condition. -/
import Derived.Test.YtgcbjphbeifbkaaEvP
import Derived.Test.YtgcbjphbeifbkaaEx5
import Derived.Test.YtgcbjphbeifbkaaSl6
import Derived.Test.YtgcbjphbeifbkaaCfTok
set_option linter.unusedSimpArgs false
set_option linter.unusedVariables false
set_option maxRecDepth 100000
namespace Go.Proofs.Ytgcbjphbeifbkaa
open Go.RowKit Go.Shelf

/-- the first elements of an owned row, as an owned row -/
theorem own_take {w : World} {base n cap g : Nat} {e : TypeId} {size : Nat} {xs : List Value} (h : w.ownsRow base e size (.slice (some ⟨g, 0, none⟩) n cap) n xs) (m : Nat) (hm : m ≤ n) :
    w.ownsRow base e size (.slice (some ⟨g, 0, none⟩) m cap) m (xs.take (m * size)) := by
  have hmul : m * size ≤ n * size := Nat.mul_le_mul_right _ hm
  refine ⟨by rw [List.length_take, h.1]; omega, ?_⟩
  rcases h.2 with ⟨hv, _⟩ | ⟨g', cap', cur, hv, hg, hh, hn, hc, hs, ht⟩
  · cases hv
  · cases hv
    exact .inr ⟨_, _, cur, rfl, hg, hh, by omega, hc, hs, by rw [← ht, List.take_take, Nat.min_eq_left hmul]⟩
theorem okI64' : SliceOk Try.prog 24 3 (.int .i64 0) 1 8 := okI64

theorem retPx {p : Int × Bool} {a : Int} {b : Bool} (h : p = (a, b)) : Ending.returned (.tuple #[.int .i64 a, .bool b]) = .returned (.tuple #[.int .i64 p.1, .bool p.2]) := by rw [h]

set_option maxHeartbeats 3200000 in
theorem impl_evalPure (v : Value) (e : List P2) (ev : Value) (env : List Int) (w : World) (hr : Rd w w.heap.size v e.length (pcells e)) (hp : Rd w w.heap.size ev env.length (icells .i64 env)) (henv : ∀ n ∈ env, -2147483648 ≤ n ∧ n ≤ 2147483647) (hlen : env.length ≤ 6)
    (hops : ∀ t ∈ e, t.o ≤ 8) (hhigh : 0 < highOf env.length [] e) :
    Calls Try.prog 64 #[v, ev] w fun e' w' => e' = .returned (.tuple #[.int .i64 (evR env e).1, .bool (evR env e).2]) ∧ Below w.heap.size w w' := by
  obtain ⟨mm, hrun0, he12⟩ := high_run hhigh
  have hl := hr.long
  obtain ⟨A, c, rfl, hn, hc, hcell⟩ := id hr
  obtain ⟨A2, c2, rfl, hn2, hc2, hcell2⟩ := id hp
  have h1 := fun p x h hx => @evR_some env e p x h hx
  have h2 := @evR_none env e
  generalize evR env e = F at *
  have Hr := hide hr; have Hp := hide hp; have H1 := hide h1; have H2 := hide h2; have Hops := hide hops; have Henv := hide henv; have Hrun0 := hide hrun0; clear hr hcell hp hcell2 hn hc hn2 hc2 h1 h2 hops henv hhigh hrun0
  go_enter Try.func64, Try.ntmps64
  go_wp2
  go_loopw [6, 14] (fun pv i wr => ∃ (k : Nat) (p : List Int) (y : Int), k ≤ e.length ∧ i = .int .i64 k ∧ runE env.length [] (e.drop k) p.length y = some (1, mm) ∧ (∀ n ∈ p, -2147483648 ≤ n ∧ n ≤ 2147483647) ∧ p.length ≤ k ∧ evL env (e.drop k) p = evL env e [] ∧ wr.ownsRow w.heap.size 3 1 pv p.length (icells .i64 p) ∧ Below w.heap.size w wr) (fun _ i _ => e.length - (intOf i).toNat)
  case atStart => exact ⟨0, [], 0, by omega, rfl, Hrun0.out, by simp, by simp, rfl, World.ownsRow_nil _ _ _ _, Below.refl _ _⟩
  case round =>
    obtain ⟨k, p, y, hk, rfl, hrun, hsm, hpk, hev, hown, hb⟩ := hrel
    have hbs := hb.size
    by_cases hlt : k < e.length
    · obtain ⟨b, o, rfl, hbB, hs0, hs1⟩ := Hr.out.two' hb (Nat.le_refl _) hlt
      obtain ⟨htok, hneed, y', hrun'⟩ := run_step hlt hrun
      have hop := Hops.out e[k] (List.getElem_mem hlt)
      have hE1 := fun h => (evL_num (env := env) (p := p) hlt h).symm.trans hev
      have hE2 := fun j h hn hj => (evL_var (env := env) (p := p) (j := j) hlt h hn hj).symm.trans hev
      have hE3 := fun q x y r a b c d => (evL_yes (env := env) (p := p) (q := q) (x := x) (y := y) (r := r) hlt a b c d).symm.trans hev
      have hE4 := fun q x y r a b c d => (evL_no (env := env) (p := p) (q := q) (x := x) (y := y) (r := r) hlt a b c d).symm.trans hev
      generalize e[k] = t at *
      obtain ⟨to, tn⟩ := t
      dsimp only at hs0 hs1 hop hE1 hE2 hE3 hE4
      have Hown := hide hown; have Hb := hide hb; have Hsm := hide hsm
      clear hown hb hsm hev hrun Hr
      have hal := Hown.out.alloc (.cells #[.int .i64 to, .int .i64 tn] 27)
      have hab := Hb.out.alloc hbs (.cells #[.int .i64 to, .int .i64 tn] 27)
      have Hal := hide hal; have Hab := hide hab; clear hal hab
      by_cases o1 : to = 1
      · subst o1
        have hnd : need [] ⟨1, tn⟩ = 0 := rfl
        rw [hnd, show ((p.length : Int) + 1 - 0) = ((p ++ [tn]).length : Int) by simp] at hrun'
        have htn : -2147483648 ≤ tn ∧ tn ≤ 2147483647 := inB_iff.1 htok
        have Hrun' := hide hrun'; have HE := hide (hE1 rfl); clear hE1 hE2 hE3 hE4 hrun' htok hneed hop hnd
        go_wp2_with (at_builtin; refine wpList_push' rfl _ _ _ rfl okI64 rfl Hal.out _ rfl (by rw [World.size_alloc]) rfl (by simp [Value.oneCell']) (by unfold maxLen; omega) (by omega) Hab.out.size ?_; intro v1 w1 hown1 hg1)
        go_roundw
        case rel => exact ⟨k + 1, p ++ [tn], y', by omega, by go_num, Hrun'.out, fun n hn => by rcases List.mem_append.1 hn with h | h; exact Hsm.out n h; simp at h; subst h; exact htn, by simp; omega, HE.out, by rw [List.length_append, icells_append]; exact hown1, belowPush Hab.out Hal.out Hab.out.size hg1⟩
        case measure => simp [intOf]; omega
      by_cases o2 : to = 2
      · subst o2
        have hnd : need [] ⟨2, tn⟩ = 0 := rfl
        rw [hnd, show ((p.length : Int) + 1 - 0) = ((p ++ [tn]).length : Int) by simp] at hrun'
        have htn : 0 ≤ tn ∧ tn ≤ (env.length : Int) - 1 := inB_iff.1 htok
        obtain ⟨j, rfl⟩ := Int.eq_ofNat_of_zero_le htn.1
        have hj : j < env.length := by omega
        obtain ⟨b2, o2, rfl, hbB2, hs⟩ := Hp.out.at_ (j := j) (by rw [icells_length]; exact hj)
        rw [icells_get _ _ hj] at hs
        have hsx := (Hb.out.cell (p := ⟨b2, o2 + j, none⟩) hbB2).trans hs
        have hbw : b2 < wr.heap.size := by omega
        have hsy := Henv.out env[j] (List.getElem_mem hj)
        have HE := hide (hE2 j rfl rfl hj)
        generalize env[j] = z at *
        rw [show ((p ++ [(j : Int)]).length : Int) = ((p ++ [z]).length : Int) by simp] at hrun'
        have Hrun' := hide hrun'; clear hE1 hE2 hE3 hE4 hrun' htok hneed hop hnd hs Hp
        go_wp2_with (at_builtin; refine wpList_push' rfl _ _ _ rfl okI64 rfl Hal.out _ rfl (by rw [World.size_alloc]) rfl (by simp [Value.oneCell']) (by unfold maxLen; omega) (by omega) Hab.out.size ?_; intro v1 w1 hown1 hg1)
        go_roundw
        case rel => exact ⟨k + 1, p ++ [z], y', by omega, by go_num, Hrun'.out, fun n hn => by rcases List.mem_append.1 hn with h | h; exact Hsm.out n h; simp at h; subst h; exact hsy, by simp; omega, HE.out, by rw [List.length_append, icells_append]; exact hown1, belowPush Hab.out Hal.out Hab.out.size hg1⟩
        case measure => simp [intOf]; omega
      have o3 : 3 ≤ to ∧ to ≠ 11 := by
        unfold tokOk at htok
        rw [if_neg o1, if_neg o2] at htok
        by_cases h11 : to = 11
        · omega
        · rw [if_neg h11] at htok; simp at htok; exact ⟨(inB_iff.1 htok.1).1, h11⟩
      have hnd : need [] ⟨to, tn⟩ = 2 := by unfold need; rw [if_neg o3.2, if_pos ⟨o3.1, hop⟩]
      rw [hnd] at hneed hrun'
      have hp2 : 2 ≤ p.length := by omega
      obtain ⟨q, x, y2, hpq, hql⟩ := two_last hp2
      have hx := Hsm.out x (by rw [hpq]; simp)
      have hy := Hsm.out y2 (by rw [hpq]; simp)
      have b1 : (to == 1) = false := by rw [beq_eq_false_iff_ne]; exact o1
      have b2 : (to == 2) = false := by rw [beq_eq_false_iff_ne]; exact o2
      obtain ⟨g, cap, rfl⟩ := own_some Hown.out (by omega)
      have hcap : p.length ≤ cap ∧ cap ≤ 9223372036854775807 := by
        obtain ⟨A', c', he, g1, g2, _⟩ := Rd.of_own Hown.out
        cases he; unfold maxLen at g2; exact ⟨g1, g2⟩
      obtain ⟨hcap1, hcap2⟩ := hcap
      have hcx : wr.cell? ⟨g, p.length - 2, none⟩ = some (.int .i64 x) := by rw [← hql, Hown.out.cellAt q.length (by omega)]; simp [icells, hpq]
      have hcy : wr.cell? ⟨g, p.length - 2 + 1, none⟩ = some (.int .i64 y2) := by rw [← hql, Hown.out.cellAt (q.length + 1) (by omega)]; simp [icells, hpq]
      have hg := (Hown.out.lt g rfl).2
      have hrs := rk_small to x y2
      have hE3' := fun r => hE3 q x y2 r o1 o2 hpq
      have hE4' := fun r => hE4 q x y2 r o1 o2 hpq
      have hrk := fun w => (impl_reckon to x y2 hx.1 hx.2 hy.1 hy.2 w).mono fun e w' (h : _ ∧ w = w') => (⟨h.1, h.2.symm⟩ : _ ∧ w' = w)
      rcases hrr : rk to x y2 with ⟨rv, rb⟩
      simp only [hrr] at hrk hrs hE3' hE4'
      have Hrk := Lib.hid hrk; clear hrk hrr hE1 hE2 hE3 hE4 o1 o2 htok
      have Hpq := hide hpq; have Hql := hide hql; have Hrun' := hide hrun'; have Hneed := hide hneed
      have q0 : 0 ≤ (p.length : Int) - 2 := by omega
      have q1 : (p.length : Int) - 2 < p.length := by omega
      have q2 : ((p.length : Int) - 2).toNat = p.length - 2 := by omega
      clear hpq hql hrun' hneed hnd
      go_wp2_with fail
      go_quiet ((go_at_call 94; exact Calls.quiet_of_same (Hrk.out _)))
      rename_i nq
      have hW1 := own_drew Hal.out nq
      have hW2 : Below w.heap.size w ((wr.alloc (.cells #[.int .i64 to, .int .i64 tn] 27)).drewN nq) := below_drewN Hab.out nq
      generalize ((wr.alloc (.cells #[.int .i64 to, .int .i64 tn] 27)).drewN nq) = W at hW1 hW2 ⊢
      have hT := own_take hW1 (p.length - 2) (by omega)
      rw [show (icells .i64 p).take ((p.length - 2) * 1) = icells .i64 q by rw [Hpq.out, Nat.mul_one, show (q ++ [x, y2]).length - 2 = q.length by simp]; simp [icells]] at hT
      have HT := hide hT; have HW2 := hide hW2
      clear hW1 hW2 hT hcx hcy
      cases rb
      · have HF := hide (H2.out (hE4' rv rfl).symm); clear hE3' hE4'
        go_wp2
        go_ret2
        exact ⟨retPx HF.out, HW2.out⟩
      · have HE := hide (hE3' rv rfl); clear hE3' hE4'
        go_wp2_with (at_builtin; refine wpList_push' rfl _ _ _ rfl okI64 rfl HT.out _ rfl rfl rfl (by simp [Value.oneCell']) (by unfold maxLen; omega) (by omega) HW2.out.size ?_; intro v1 w1 hown1 hg1)
        go_roundw
        case rel => exact ⟨k + 1, q ++ [rv], y', by omega, by go_num, (by have := Hrun'.out; rw [show ((p.length : Int) + 1 - 2) = ((q ++ [rv]).length : Int) by rw [List.length_append, Hql.out, List.length_singleton]; omega] at this; exact this), fun n hn => by rcases List.mem_append.1 hn with h | h; exact Hsm.out n (by rw [Hpq.out]; simp [h]); simp at h; subst h; exact hrs, by rw [List.length_append, Hql.out, List.length_singleton]; omega, HE.out, by rw [List.length_append, Hql.out, List.length_singleton, icells_append]; exact hown1, belowPush HW2.out HT.out HW2.out.size hg1⟩
        case measure => simp [intOf]; omega
    · obtain rfl : k = e.length := by omega
      rw [List.drop_length] at hrun hev
      have hp1 : p.length = 1 := by simp only [runE, Option.some.injEq, Prod.mk.injEq] at hrun; omega
      have hp2 : ∃ x, p = [x] := by
        rcases p with _ | ⟨x, _ | ⟨z, l⟩⟩
        · simp at hp1
        · exact ⟨x, rfl⟩
        · simp at hp1
      obtain ⟨x, rfl⟩ := hp2
      have HF := hide (H1.out [x] x hev.symm rfl)
      have Hown := hide hown
      obtain ⟨g, cap, rfl⟩ := own_some hown (by simp)
      have hc := hown.cellAt 0 (by simp)
      have hc' : wr.cell? ⟨g, 0, none⟩ = some (.int .i64 x) := by rw [hc]; simp [icells]
      clear hc hown hrun hev hp1 hsm
      go_wp2
      go_ret2
      exact ⟨retPx HF.out, hb⟩
end Go.Proofs.Ytgcbjphbeifbkaa
