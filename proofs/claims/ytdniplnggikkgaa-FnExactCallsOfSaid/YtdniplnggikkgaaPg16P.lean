
/- Sorted rows of small numbers, and l1Put. No condition. -/
import Derived.Test.YtdniplnggikkgaaPg10
set_option linter.unusedSimpArgs false
set_option linter.unusedVariables false
set_option maxRecDepth 100000
namespace Go.Proofs.Ytdniplnggikkgaa
open Go.RowKit

/-- x put among rising numbers -/
def putL : List Int → Int → List Int
  | [], x => [x]
  | a :: l, x => if a < x then a :: putL l x else if a = x then a :: l else x :: a :: l
theorem putL_same : ∀ (l : List Int) (k : Nat) (x : Int), (∀ j (h : j < l.length), j < k → l[j] < x) → ∀ hk : k < l.length, l[k] = x → putL l x = l := by
  intro l
  induction l with
  | nil => intro k x _ hk; simp at hk
  | cons a l ih =>
    intro k x hlt hk he
    cases k with
    | zero => simp only [List.getElem_cons_zero] at he; subst he; simp only [putL]; rw [if_neg (by omega)]; simp
    | succ k =>
      have h0 := hlt 0 (by simp) (by omega)
      simp only [List.getElem_cons_zero] at h0
      simp only [putL]
      rw [if_pos h0, ih k x (fun j hj hjk => by have := hlt (j + 1) (by simpa using hj) (by omega); simpa using this) (by simpa using hk) (by simpa using he)]
theorem putL_new : ∀ (l : List Int) (k : Nat) (x : Int), k ≤ l.length → (∀ j (h : j < l.length), j < k → l[j] < x) → (∀ hk : k < l.length, ¬ l[k] < x ∧ l[k] ≠ x) → putL l x = l.take k ++ [x] ++ l.drop k := by
  intro l
  induction l with
  | nil => intro k x _ _ _; simp [putL]
  | cons a l ih =>
    intro k x hk hlt hn
    cases k with
    | zero =>
      obtain ⟨h1, h2⟩ := hn (by simp)
      simp only [List.getElem_cons_zero] at h1 h2
      simp only [putL]
      rw [if_neg h1, if_neg h2]; rfl
    | succ k =>
      have h0 := hlt 0 (by simp) (by omega)
      simp only [List.getElem_cons_zero] at h0
      simp only [putL]
      rw [if_pos h0, ih k x (by simpa using hk) (fun j hj hjk => by have := hlt (j + 1) (by simpa using hj) (by omega); simpa using this) (fun hk' => by have := hn (by simpa using hk'); simpa using this)]
      rfl
/-- 'append(s, x...)' where s is the call's own and x is read -/
theorem wpList_catRd {P : Program} {ops : Array Oper} {rest : List Oper} {o : Oper} {a : Act} {Q : Exit → Act → World → Prop} (hgd : o.guard = none) (s x : Operand) (t : TypeId)
    (ho : o.op = .call { callee := .builtin .append, args := #[s, x], argTypes := #[t, t] }) {e : TypeId} {z : Value} {bytes : Nat} (hT : SliceOk P t e z 1 bytes)
    {w : World} {base : Nat} {v : Value} {b o' c n m : Nat} {xs news : List Value} (hs : a.eval s = v) (hown : w.ownsRow base e 1 v n xs) (hx : a.eval x = .slice (some ⟨b, o', none⟩) m c) (hu : ∀ j u, news[j]? = some u → w.cell? ⟨b, o' + j, none⟩ = some u) (hm : news.length = m)
    (h1 : ∀ u ∈ news, u.oneCell' = true) (h63 : n + m ≤ maxLen) (hbytes : (n + m) * bytes ≤ 140737488355328) (hbase : base ≤ w.heap.size)
    (h : ∀ v' w', w'.ownsRow base e 1 v' (n + m) (xs ++ news) → Gro w w' v v' → wpList P ops Q rest (a.put o.dst v') w') :
    wpList P ops Q (o :: rest) a w := by
  obtain ⟨ht, i, hi, hz, hsz, hby, hzs, hs0⟩ := hT
  refine wpList_append_own_at (w := w) hgd s x t ho base e i z 1 bytes ht hi hz hsz hby hzs hs0 v n xs hs hown ⟨b, o', none⟩ m c news hx (by omega) (fun j u hj => ?_) h1 h63 hbytes hbase (fun v' w' k1 k2 _ k4 => h v' w' k1 ⟨k2, ?_⟩)
  · have hp : ((⟨b, o', none⟩ : Addr).add j) = ⟨b, o' + j, none⟩ := by unfold Addr.add; split <;> simp_all
    rw [hp]; exact hu j u hj
  · rcases k4 with e | e
    · exact .inl e
    · exact .inr ⟨_, e, Nat.le_refl _⟩
/-- 'append(s, x...)' where x is nil -/
theorem wpList_catNone {P : Program} {ops : Array Oper} {rest : List Oper} {o : Oper} {a : Act} {Q : Exit → Act → World → Prop} (hgd : o.guard = none) (s x : Operand) (t : TypeId)
    (ho : o.op = .call { callee := .builtin .append, args := #[s, x], argTypes := #[t, t] }) {e : TypeId} {z : Value} {size bytes : Nat} (hT : SliceOk P t e z size bytes)
    {w : World} {base : Nat} {v : Value} {n : Nat} {xs : List Value} (hs : a.eval s = v) (hown : w.ownsRow base e size v n xs) (hx : a.eval x = .slice none 0 0)
    (h : wpList P ops Q rest (a.put o.dst v) w) : wpList P ops Q (o :: rest) a w := by
  obtain ⟨ht, i, hi, hz, hsz, hby, hzs, hs0⟩ := hT
  exact wpList_append_own_none hgd s x t ho base e i size ht hi v n xs hs hown hx h
theorem own0 (w : World) : (w.alloc (.cells #[] 3)).ownsRow w.heap.size 3 1 (.slice (some ⟨w.heap.size, 0, none⟩) 0 0) 0 [] :=
  ⟨rfl, .inr ⟨w.heap.size, 0, #[], rfl, Nat.le_refl _, heap_alloc_new w _, Nat.le_refl _, by unfold maxLen; omega, rfl, rfl⟩⟩
set_option maxHeartbeats 3200000 in
theorem spec_l1Put (v : Value) (l : List Int) (x : Int) (w : World) (base : Nat) (hown : w.ownsRow base 3 1 v l.length (icells .i64 l)) (hbase : base ≤ w.heap.size) (hl : l.length ≤ 1000) :
    Calls Try.prog 68 #[v, .int .i64 x] w fun e w' => ∃ v', e = .returned v' ∧ w'.ownsRow base 3 1 v' (putL l x).length (icells .i64 (putL l x)) ∧ Below w.heap.size w w' := by
  have Own0 := hide (own0 w)
  rcases id hown.2 with ⟨rfl, h0⟩ | ⟨g, c, cur, rfl, hg, hh, hnc, hcm, _⟩
  · obtain rfl := List.eq_nil_of_length_eq_zero h0
    clear h0 hown
    go_enter Try.func68, Try.ntmps68
    go_wp2
    go_loop [5] (fun i => i = .int .i64 0) (fun i => 0)
    case atStart => rfl
    case round =>
      obtain rfl := hrel
      go_wp2_with (first
        | (at_builtin; refine wpList_catNone rfl _ _ _ rfl okI64 rfl Own0.out rfl ?_)
        | (at_builtin; refine wpList_pushG rfl _ _ _ rfl okI64 rfl Own0.out #[.int .i64 x] rfl (by rw [World.size_alloc]) rfl (by simp [Value.oneCell']) (by unfold maxLen; omega) (by omega) (by rw [World.size_alloc]; omega) ?_; intro v2 w2 hown2 hg2; have Ho2 := hide hown2; have Hg2 := hide hg2; clear hown2 hg2)
        | (at_builtin; refine wpList_catNone rfl _ _ _ rfl okI64 rfl Ho2.out rfl ?_))
      go_ret
      have hb3 := (Below.refl w.heap.size w).alloc (Nat.le_refl _) (.cells #[] 3) |>.trans (Hg2.out.toBelow Own0.out (by rw [World.size_alloc]; omega))
      exact ⟨_, rfl, own_base Ho2.out hbase, hb3⟩
  have Hr := hide (Rd.of_own hown)
  have hgw : g < w.heap.size := (Array.getElem?_eq_some_iff.1 hh).1
  have Hown := hide hown
  clear hown hh
  go_enter Try.func68, Try.ntmps68
  go_wp2
  go_loop [5] (fun i => ∃ k : Nat, k ≤ l.length ∧ i = .int .i64 k ∧ ∀ j (h : j < l.length), j < k → l[j] < x) (fun i => l.length - (intOf i).toNat)
  case atStart => exact ⟨0, by omega, rfl, fun j _ h => by omega⟩
  case round =>
    obtain ⟨k, hk, rfl, hlt⟩ := hrel
    have hu1 : ∀ j u, (icells .i64 (l.take k))[j]? = some u → (w.alloc (.cells #[] 3)).cell? ⟨g, 0 + j, none⟩ = some u := fun j u hj => by
      have hj2 : (icells .i64 l)[j]? = some u := by
        unfold icells at hj ⊢
        rw [List.map_take, List.getElem?_take] at hj
        split at hj
        · exact hj
        · cases hj
      have hj3 := Hown.out.cells (g := g) rfl j u hj2
      have hp : ((⟨g, 0, none⟩ : Addr).add j) = ⟨g, 0 + j, none⟩ := by unfold Addr.add; split <;> simp_all
      rw [hp] at hj3
      exact (((Below.refl w.heap.size w).alloc (Nat.le_refl _) _).cell (p := ⟨g, 0 + j, none⟩) hgw).trans hj3
    have hu3 : ∀ j u, (icells .i64 (l.drop k))[j]? = some u → w.cell? ⟨g, k + j, none⟩ = some u := fun j u hj => by
      have hj2 : (icells .i64 l)[k + j]? = some u := by
        unfold icells at hj ⊢
        rw [List.map_drop, List.getElem?_drop] at hj
        exact hj
      have hj3 := Hown.out.cells (g := g) rfl _ u hj2
      have hp : ((⟨g, 0, none⟩ : Addr).add (k + j)) = ⟨g, k + j, none⟩ := by unfold Addr.add; split <;> simp_all
      rw [hp] at hj3
      exact hj3
    have hm1 : (icells .i64 (l.take k)).length = k := by rw [icells_length, List.length_take]; omega
    have hm3 : (icells .i64 (l.drop k)).length = l.length - k := by rw [icells_length, List.length_drop]
    have hq1 : 0 + k ≤ maxLen := (by unfold maxLen; omega)
    have hq2 : (0 + k) * 8 ≤ 140737488355328 := by omega
    have hq3 : w.heap.size ≤ (w.alloc (.cells #[] 3)).heap.size := by rw [World.size_alloc]; omega
    have hq4 : 0 + k + 1 ≤ maxLen := (by unfold maxLen; omega)
    have hq5 : (0 + k + 1) * 8 ≤ 140737488355328 := by omega
    have hq6 : 0 + k + 1 + (l.length - k) ≤ maxLen := (by unfold maxLen; omega)
    have hq7 : (0 + k + 1 + (l.length - k)) * 8 ≤ 140737488355328 := by omega
    have Q1 := hide hq1; have Q2 := hide hq2; have Q3 := hide hq3; have Q4 := hide hq4; have Q5 := hide hq5; have Q6 := hide hq6; have Q7 := hide hq7
    clear hq1 hq2 hq3 hq4 hq5 hq6 hq7
    have Hu1 := hide hu1; have Hu3 := hide hu3; have Hm1 := hide hm1; have Hm3 := hide hm3
    clear hu1 hu3 hm1 hm3
    by_cases hkl : k < l.length
    · obtain ⟨b, o, e1, hbB, s0⟩ := Hr.out.at_ (j := k) (by rw [icells_length]; exact hkl)
      cases e1
      rw [icells_get _ _ hkl, Nat.zero_add] at s0
      by_cases h1 : l[k] < x
      · have hlt' : ∀ j (h : j < l.length), j < k + 1 → l[j] < x := fun j hj hjk => by
          by_cases e : j = k
          · subst e; exact h1
          · exact hlt j hj (by omega)
        have Hlt := hide hlt'
        clear hlt hlt'
        generalize l[k] = y at *
        go_wp2
        go_round
        case rel => exact ⟨k + 1, by omega, by go_num, Hlt.out⟩
        case measure => simp [intOf]; omega
      · by_cases h2 : l[k] = x
        · have HS := hide (putL_same l k x hlt hkl h2)
          clear hlt
          rw [h2] at s0 h1
          clear h2
          go_wp2
          go_ret
          rw [HS.out]
          exact ⟨_, rfl, Hown.out, Below.refl _ _⟩
        · have HS := hide (putL_new l k x hk hlt (fun _ => ⟨h1, h2⟩))
          have e1 : (l[k] == x) = false := by rw [beq_eq_false_iff_ne]; exact h2
          clear hlt h2
          generalize l[k] = y at *
          go_wp2_with (first
            | (at_builtin; (refine wpList_catRd rfl _ _ _ rfl okI64 rfl Own0.out rfl Hu1.out Hm1.out one_icells Q1.out Q2.out Q3.out ?_); intro v1 w1 hown1 hg1; have Ho1 := hide hown1; have Hg1 := hide hg1; clear hown1 hg1)
            | (at_builtin; (refine wpList_pushG rfl _ _ _ rfl okI64 rfl Ho1.out #[.int .i64 x] rfl rfl rfl (by simp [Value.oneCell']) Q4.out Q5.out (Nat.le_trans Q3.out Hg1.out.g.size) ?_); intro v2 w2 hown2 hg2; have Ho2 := hide hown2; have Hg2 := hide (Hg1.out.trans hg2); have Hb2 := hide ((Below.refl w.heap.size w).alloc (Nat.le_refl _) (.cells #[] 3) |>.trans ((Hg1.out.trans hg2).toBelow Own0.out (by rw [World.size_alloc]; omega))); clear hown2 hg2)
            | (at_builtin; (refine wpList_catRd rfl _ _ _ rfl okI64 rfl Ho2.out rfl (fun j u hj => (Hb2.out.cell (p := ⟨g, k + j, none⟩) hgw).trans (Hu3.out j u hj)) Hm3.out one_icells Q6.out Q7.out Hb2.out.size ?_); intro v3 w3 hown3 hg3))
          go_ret
          have hb3 := (Below.refl w.heap.size w).alloc (Nat.le_refl _) (.cells #[] 3) |>.trans ((Hg2.out.trans hg3).toBelow Own0.out (by rw [World.size_alloc]; omega))
          refine ⟨_, rfl, ?_, hb3⟩
          rw [HS.out, icells_append, icells_append]
          have e : (l.take k ++ [x] ++ l.drop k).length = 0 + k + 1 + (l.length - k) := by simp; omega
          rw [e]
          exact own_base hown3 hbase
    · have HS := hide (putL_new l k x hk hlt (fun h => absurd h hkl))
      have hkl' : k = l.length := by omega
      have hnone : ∀ j u, (icells .i64 (l.drop k))[j]? = some u → False := fun j u hj => by
        have : (icells .i64 (l.drop k)).length = 0 := by rw [icells_length, List.length_drop]; omega
        rw [List.getElem?_eq_none (by omega)] at hj; cases hj
      have Hnone := hide hnone; clear hnone
      have hki : ¬ (k : Int) < (l.length : Int) := by omega
      clear hlt hkl hkl'
      by_cases hck : c = k
      · subst hck
        clear Hu3
        go_wp2_with (first
          | (at_builtin; (refine wpList_catRd rfl _ _ _ rfl okI64 rfl Own0.out rfl Hu1.out Hm1.out one_icells Q1.out Q2.out Q3.out ?_); intro v1 w1 hown1 hg1; have Ho1 := hide hown1; have Hg1 := hide hg1; clear hown1 hg1)
          | (at_builtin; (refine wpList_pushG rfl _ _ _ rfl okI64 rfl Ho1.out #[.int .i64 x] rfl rfl rfl (by simp [Value.oneCell']) Q4.out Q5.out (Nat.le_trans Q3.out Hg1.out.g.size) ?_); intro v2 w2 hown2 hg2; have Ho2 := hide hown2; have Hg2 := hide (Hg1.out.trans hg2); have Hb2 := hide ((Below.refl w.heap.size w).alloc (Nat.le_refl _) (.cells #[] 3) |>.trans ((Hg1.out.trans hg2).toBelow Own0.out (by rw [World.size_alloc]; omega))); clear hown2 hg2)
          | (at_builtin; refine wpList_catRd (news := []) rfl _ _ _ rfl okI64 rfl Ho2.out rfl (fun j u hj => by cases hj) rfl (fun u hu => by cases hu) Q4.out Q5.out Hb2.out.size ?_; intro v3 w3 hown3 hg3))
        go_ret
        have hb3 := (Below.refl w.heap.size w).alloc (Nat.le_refl _) (.cells #[] 3) |>.trans ((Hg2.out.trans hg3).toBelow Own0.out (by rw [World.size_alloc]; omega))
        refine ⟨_, rfl, ?_, hb3⟩
        have hdr : l.drop c = [] := List.drop_eq_nil_of_le (by omega)
        rw [HS.out, hdr, List.append_nil, icells_append]
        have e : (l.take c ++ [x]).length = 0 + c + 1 := by simp; omega
        rw [e]
        rw [List.append_nil] at hown3
        exact own_base hown3 hbase
      · clear Hu3
        go_wp2_with (first
          | (at_builtin; (refine wpList_catRd rfl _ _ _ rfl okI64 rfl Own0.out rfl Hu1.out Hm1.out one_icells Q1.out Q2.out Q3.out ?_); intro v1 w1 hown1 hg1; have Ho1 := hide hown1; have Hg1 := hide hg1; clear hown1 hg1)
          | (at_builtin; (refine wpList_pushG rfl _ _ _ rfl okI64 rfl Ho1.out #[.int .i64 x] rfl rfl rfl (by simp [Value.oneCell']) Q4.out Q5.out (Nat.le_trans Q3.out Hg1.out.g.size) ?_); intro v2 w2 hown2 hg2; have Ho2 := hide hown2; have Hg2 := hide (Hg1.out.trans hg2); have Hb2 := hide ((Below.refl w.heap.size w).alloc (Nat.le_refl _) (.cells #[] 3) |>.trans ((Hg1.out.trans hg2).toBelow Own0.out (by rw [World.size_alloc]; omega))); clear hown2 hg2)
          | (at_builtin; (refine wpList_catRd rfl _ _ _ rfl okI64 rfl Ho2.out rfl (fun j u hj => (Hnone.out j u hj).elim) Hm3.out one_icells Q6.out Q7.out Hb2.out.size ?_); intro v3 w3 hown3 hg3))
        go_ret
        have hb3 := (Below.refl w.heap.size w).alloc (Nat.le_refl _) (.cells #[] 3) |>.trans ((Hg2.out.trans hg3).toBelow Own0.out (by rw [World.size_alloc]; omega))
        refine ⟨_, rfl, ?_, hb3⟩
        rw [HS.out, icells_append, icells_append]
        have e : (l.take k ++ [x] ++ l.drop k).length = 0 + k + 1 + (l.length - k) := by simp; omega
        rw [e]
        exact own_base hown3 hbase

/-- the numbers that a mask names, from k on -/
def nmL : Nat → List Bool → List Int
  | _, [] => []
  | k, b :: bs => if b then (k : Int) :: nmL (k + 1) bs else nmL (k + 1) bs
theorem nmL_length (k : Nat) (bs : List Bool) : (nmL k bs).length ≤ bs.length := by
  induction bs generalizing k with
  | nil => simp [nmL]
  | cons b bs ih => simp only [nmL]; have := ih (k + 1); split <;> simp <;> omega
theorem nmL_append (k : Nat) (a b : List Bool) : nmL k (a ++ b) = nmL k a ++ nmL (k + a.length) b := by
  induction a generalizing k with
  | nil => simp [nmL]
  | cons x a ih =>
    simp only [List.cons_append, nmL, List.length_cons]
    rw [ih, show k + 1 + a.length = k + (a.length + 1) by omega]
    split <;> rfl
theorem nmL_take (bs : List Bool) {k : Nat} (h : k < bs.length) : nmL 0 (bs.take (k + 1)) = nmL 0 (bs.take k) ++ (if bs[k] then [(k : Int)] else []) := by
  rw [List.take_succ_eq_append_getElem h, nmL_append]
  congr 1
  simp only [nmL]
  rw [List.length_take, show 0 + min k bs.length = k by omega]
theorem nmL_ge (k : Nat) (bs : List Bool) : ∀ y ∈ nmL k bs, (k : Int) ≤ y := by
  induction bs generalizing k with
  | nil => intro y hy; simp [nmL] at hy
  | cons b bs ih =>
    intro y hy
    simp only [nmL] at hy
    split at hy
    · rcases List.mem_cons.1 hy with rfl | h
      · omega
      · have := ih _ _ h; omega
    · have := ih _ _ hy; omega
theorem putL_front {l : List Int} {x : Int} (h : ∀ y ∈ l, x < y) : putL l x = x :: l := by
  cases l with
  | nil => rfl
  | cons a l =>
    have := h a (by simp)
    simp only [putL]; rw [if_neg (by omega), if_neg (by omega)]
theorem putL_nm (bs : List Bool) : ∀ (k x : Nat), x < bs.length → putL (nmL k bs) ((k + x : Nat) : Int) = nmL k (bs.set x true) := by
  induction bs with
  | nil => intro k x h; simp at h
  | cons b bs ih =>
    intro k x h
    cases x with
    | zero =>
      cases b
      · simp only [nmL, List.set_cons_zero, Nat.add_zero]
        exact putL_front (fun y hy => by have := nmL_ge _ _ _ hy; omega)
      · simp only [nmL, List.set_cons_zero, Nat.add_zero, if_true, putL]
        rw [if_neg (by omega)]
    | succ x =>
      have hx : x < bs.length := by simpa using h
      have e := ih (k + 1) x hx
      rw [show k + 1 + x = k + (x + 1) by omega] at e
      simp only [List.set_cons_succ]
      cases b
      · simp only [nmL]; exact e
      · simp only [nmL, if_true, putL]
        rw [if_pos (by omega), e]
theorem putL_nm0 {bs : List Bool} {x : Nat} (h : x < bs.length) : putL (nmL 0 bs) (x : Int) = nmL 0 (bs.set x true) := by
  have := putL_nm bs 0 x h
  rwa [Nat.zero_add] at this
/-- a mask with so many more set -/
def mskL : List Int → List Bool → List Bool
  | [], bs => bs
  | x :: l, bs => mskL l (bs.set x.toNat true)
theorem mskL_length (l : List Int) (bs : List Bool) : (mskL l bs).length = bs.length := by
  induction l generalizing bs with
  | nil => rfl
  | cons x l ih => simp only [mskL]; rw [ih, List.length_set]
/-- the functions that an expression calls -/
def tcL : List P2 → List Int
  | [] => []
  | t :: l => if t.o = 11 then t.n :: tcL l else tcL l
theorem tcL_yes {l : List P2} {q : Nat} (h : q < l.length) (e : l[q].o = 11) : tcL (l.drop q) = l[q].n :: tcL (l.drop (q + 1)) := by
  rw [List.drop_eq_getElem_cons h]; simp only [tcL]; rw [if_pos e]
theorem tcL_no {l : List P2} {q : Nat} (h : q < l.length) (e : l[q].o ≠ 11) : tcL (l.drop q) = tcL (l.drop (q + 1)) := by
  rw [List.drop_eq_getElem_cons h]; simp only [tcL]; rw [if_neg e]
/-- the functions that a statement calls -/
def clS (s : StmtM) : List Int := if s.qKind = 3 then [s.qN] else tcL s.qEx
def clA : List StmtM → List Int
  | [] => []
  | s :: l => clS s ++ clA l
theorem clA_step {l : List StmtM} {k : Nat} (h : k < l.length) : clA (l.drop k) = clS l[k] ++ clA (l.drop (k + 1)) := by
  rw [List.drop_eq_getElem_cons h]; rfl
/-- what is called is one of five -/
def clOk (s : StmtM) : Prop := (s.qKind = 3 → s.qEx = [] ∧ 0 ≤ s.qN ∧ s.qN < 5) ∧ ∀ t ∈ s.qEx, t.o = 11 → 0 ≤ t.n ∧ t.n < 5
theorem runE_all {vars : Int} {params : List Int} : ∀ (l : List P2) (c h : Int) (r : Int × Int), runE vars params l c h = some r → ∀ t ∈ l, tokOk vars params.length t = true := by
  intro l
  induction l with
  | nil => intro c h r _ t ht; cases ht
  | cons a l ih =>
    intro c h r he t ht
    simp only [runE] at he
    by_cases hg : tokOk vars params.length a = true ∧ need params a ≤ c
    · rw [if_pos hg] at he
      rcases List.mem_cons.1 ht with rfl | h1
      · exact hg.1
      · exact ih _ _ _ he t h1
    · rw [if_neg hg] at he; cases he
theorem good_toks {e : List P2} {vars : Int} {params : List Int} (h : goodExpr e vars params = true) : ∀ t ∈ e, t.o = 11 → 0 ≤ t.n ∧ t.n < 5 := by
  unfold goodExpr at h
  simp only [Bool.and_eq_true, decide_eq_true_eq] at h
  obtain ⟨_, hp, hh⟩ := h
  have h5 := (parOk_iff.1 hp).1
  intro t ht h11
  cases hr : runE vars params e 0 0 with
  | none => rw [highOf_none hr] at hh; omega
  | some r =>
    have := runE_all e 0 0 r hr t ht
    unfold tokOk at this
    rw [if_neg (by omega), if_neg (by omega), if_pos h11] at this
    have := inB_iff.1 this
    omega
theorem clOk_of {vars : Int} {params : List Int} {s : StmtM} (h : stmtOk vars params s = true) (h5 : params.length ≤ 5) : clOk s := by
  unfold stmtOk at h
  have hn : ∀ {e : List P2}, e.length = 0 → ∀ t ∈ e, t.o = 11 → 0 ≤ t.n ∧ t.n < 5 := fun he t ht => by
    rw [List.eq_nil_of_length_eq_zero he] at ht; cases ht
  split at h
  · next k => simp only [Bool.and_eq_true] at h; exact ⟨fun k3 => by omega, good_toks h.1⟩
  split at h
  · next k => simp only [Bool.and_eq_true] at h; exact ⟨fun k3 => by omega, good_toks h.1⟩
  split at h
  · next k =>
    simp only [Bool.and_eq_true, decide_eq_true_eq] at h
    have := inB_iff.1 h.2.1
    exact ⟨fun _ => ⟨List.eq_nil_of_length_eq_zero h.1, by omega, by omega⟩, hn h.1⟩
  split at h
  · next k => simp only [Bool.and_eq_true, decide_eq_true_eq] at h; exact ⟨fun k3 => by omega, hn h.1⟩
  split at h
  · next k => simp only [Bool.and_eq_true] at h; exact ⟨fun k3 => by omega, good_toks h.1⟩
  split at h
  · next k => simp only [Bool.and_eq_true] at h; exact ⟨fun k3 => by omega, good_toks h.1⟩
  · cases h
theorem prog_cl {fs : List FuncM} (h : progS fs = true) {k : Nat} (hk : k < fs.length) : ∀ j (hj : j < fs[k].qStmts.length), clOk fs[k].qStmts[j] := by
  unfold progS at h
  simp only [Bool.and_eq_true, List.all_eq_true] at h
  obtain ⟨_, hp, _, ha⟩ := h
  have h1 := (ha _ (List.getElem_mem hk)).1
  rw [func_eq, Bool.and_eq_true, List.all_eq_true] at h1
  intro j hj
  exact clOk_of (h1.2 _ (List.getElem_mem hj)) (parOk_iff.1 hp).1
def mask0 : List Bool := List.replicate 5 false
def calM (S : List StmtM) : List Bool := mskL (clA S) mask0
theorem calM_length (S : List StmtM) : (calM S).length = 5 := by unfold calM; rw [mskL_length]; rfl
def calR (fs : List FuncM) (fn : Int) : List Int := if okF fs fn then nmL 0 (calM (fs.getD fn.toNat fn0).qStmts) else []
theorem calR_length (fs : List FuncM) (fn : Int) : (calR fs fn).length ≤ 1048576 := by
  unfold calR; split
  · have h1 := nmL_length 0 (calM (fs.getD fn.toNat fn0).qStmts); rw [calM_length] at h1; omega
  · simp
end Go.Proofs.Ytdniplnggikkgaa
