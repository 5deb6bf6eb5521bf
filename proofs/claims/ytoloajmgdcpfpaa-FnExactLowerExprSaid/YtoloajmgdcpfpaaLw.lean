
/- LowerExpr on both sides. No condition. -/
import Derived.Test.YtoloajmgdcpfpaaLw1
import Derived.Test.YtoloajmgdcpfpaaInsM
import Derived.Test.YtoloajmgdcpfpaaCfTok
import Derived.Shelf.Lay
set_option linter.unusedSimpArgs false
set_option linter.unusedVariables false
set_option maxRecDepth 100000
namespace Go.Proofs.Ytoloajmgdcpfpaa
open Go.RowKit Go.Shelf

theorem int_neT {a b : Int} (h : a ≠ b) : (a == b) = false := beq_eq_false_iff_ne.2 h
def lowOk (l : List P2) : Bool := exprOk l
theorem lowT_other {o n : Int} (h1 : o ≠ 1) (h2 : o ≠ 2) (h3 : o ≠ 11) (h4 : o ≠ 9) (h5 : o ≠ 10) : lowT ⟨o, n⟩ = ⟨4, o⟩ := by
  unfold lowT; dsimp only; rw [if_neg h1, if_neg h2, if_neg h3, if_neg h4, if_neg h5]
set_option maxHeartbeats 1600000 in
theorem spec_l6Tok (o n : Int) (w : World) : Calls Try.prog 70 #[.agg #[.int .i64 o, .int .i64 n]] w fun e w' => e = .returned (.agg #[.int .i64 (lowT ⟨o, n⟩).o, .int .i64 (lowT ⟨o, n⟩).n]) ∧ Below w.heap.size w w' := by
  by_cases o1 : o = 1
  · subst o1
    rw [show lowT ⟨1, n⟩ = ⟨1, n⟩ from rfl]
    go_enter Try.func70, Try.ntmps70
    go_wp2
    go_returns
    exact ⟨rfl, by go_grown⟩
  by_cases o2 : o = 2
  · subst o2
    rw [show lowT ⟨2, n⟩ = ⟨2, n⟩ from rfl]
    go_enter Try.func70, Try.ntmps70
    go_wp2
    go_returns
    exact ⟨rfl, by go_grown⟩
  by_cases o3 : o = 11
  · subst o3
    rw [show lowT ⟨11, n⟩ = ⟨7, n⟩ from rfl]
    go_enter Try.func70, Try.ntmps70
    go_wp2
    go_returns
    exact ⟨rfl, by go_grown⟩
  by_cases o4 : o = 9
  · subst o4
    rw [show lowT ⟨9, n⟩ = ⟨5, 0⟩ from rfl]
    go_enter Try.func70, Try.ntmps70
    go_wp2
    go_returns
    exact ⟨rfl, by go_grown⟩
  by_cases o5 : o = 10
  · subst o5
    rw [show lowT ⟨10, n⟩ = ⟨6, 0⟩ from rfl]
    go_enter Try.func70, Try.ntmps70
    go_wp2
    go_returns
    exact ⟨rfl, by go_grown⟩
  rw [lowT_other o1 o2 o3 o4 o5]
  have b1 := int_neT o1; have b2 := int_neT o2; have b3 := int_neT o3; have b4 := int_neT o4; have b5 := int_neT o5
  clear o1 o2 o3 o4 o5
  go_enter Try.func70, Try.ntmps70
  go_wp2
  go_returns
  exact ⟨rfl, by go_grown⟩
set_option maxHeartbeats 1600000 in
theorem spec_l6Expr (v : Value) (l : List P2) (w : World) (hr : Rd w w.heap.size v l.length (pcells l)) (hl : l.length ≤ 12) :
    Calls Try.prog 49 #[v] w fun e w' => ∃ v', e = .returned v' ∧ w'.ownsRow w.heap.size 78 2 v' l.length (pcells (l.map lowT)) ∧ Below w.heap.size w w' := by
  obtain ⟨A, c, rfl, hn, hc, hcell⟩ := id hr
  have Hr := hide hr; clear hr hcell
  go_enter Try.func49, Try.ntmps49
  go_wp2
  go_loopw [3, 8] (fun s i wr => ∃ (k : Nat) (acc : List P2), k ≤ l.length ∧ i = .int .i64 k ∧ acc.length = k ∧ acc ++ (l.drop k).map lowT = l.map lowT ∧ wr.ownsRow w.heap.size 78 2 s acc.length (pcells acc) ∧ Below w.heap.size w wr) (fun _ i _ => l.length - (intOf i).toNat)
  case atStart => exact ⟨0, [], by omega, rfl, rfl, rfl, World.ownsRow_nil _ _ _ _, Below.refl _ _⟩
  case round =>
    obtain ⟨k, acc, hk, rfl, hak, hacc, hown, hb⟩ := hrel
    by_cases hlt : k < l.length
    · have hst := low_step hlt hacc
      obtain ⟨b, o, rfl, hbB, s0, s1⟩ := Hr.out.two hlt
      have q0 := (hb.cell (p := ⟨b, o + k * 2, none⟩) hbB).trans s0
      have q1 := (hb.cell (p := ⟨b, o + k * 2 + 1, none⟩) hbB).trans s1
      have hbw : b < wr.heap.size := Nat.lt_of_lt_of_le hbB hb.size
      have hc : ∀ W, Calls Try.prog 70 #[.agg #[.int .i64 l[k].o, .int .i64 l[k].n]] W fun e w' => e = .returned (.agg #[.int .i64 (lowT l[k]).o, .int .i64 (lowT l[k]).n]) ∧ Below W.heap.size W w' := fun W => spec_l6Tok _ _ W
      generalize lowT l[k] = T at *
      generalize l[k] = t at *
      obtain ⟨to, tn⟩ := t
      obtain ⟨xo, xn⟩ := T
      dsimp only at *
      have Hb := hide (hb.alloc hb.size (.cells #[.int .i64 to, .int .i64 tn] 70))
      have Ho := hide (hown.alloc (.cells #[.int .i64 to, .int .i64 tn] 70))
      have HC := Lib.hid hc; have Hst := hide hst; have Hak := hide hak
      have hal : acc.length ≤ 12 := by omega
      clear s0 s1 hb hc hown hacc hst hak
      go_wp2_with (first
        | (go_at_call 70; refine (HC.out _).mono ?_; rintro e w1 ⟨rfl, hb1⟩; have Hb1 := hide (Hb.out.trans (hb1.mono Hb.out.size)); have Ho1 := hide (own_keep Ho.out hb1))
        | (at_builtin; refine wpList_push rfl _ _ _ rfl okIns rfl Ho1.out _ rfl rfl (by simp [Value.oneCell']) (by unfold maxLen; omega) (by omega) Hb1.out.size ?_; intro v1 w2 hown1 hg1))
      go_roundw
      case rel => exact ⟨k + 1, acc ++ [⟨xo, xn⟩], by omega, by go_num, by rw [List.length_append, Hak.out]; rfl, Hst.out, by rw [pcells_snoc, List.length_append]; exact hown1, belowPush Hb1.out Ho1.out Hb1.out.size hg1⟩
      case measure => simp [intOf]; omega
    · obtain rfl : k = l.length := by omega
      rw [List.drop_length, List.map_nil, List.append_nil] at hacc
      subst hacc
      have Ho := hide hown; have Hb := hide hb; clear hown hb
      go_wp2
      go_ret
      exact ⟨_, rfl, by simpa using Ho.out, Hb.out⟩
set_option maxHeartbeats 1600000 in
theorem spec_LowerExpr (v : Value) (l : List P2) (w : World) (hr : Rd w w.heap.size v l.length (pcells l)) (hl : l.length ≤ 9223372036854775807) :
    Calls Try.prog 21 #[v] w fun e w' => ∃ v', e = .returned (.tuple #[v', .bool (lowOk l)]) ∧ w'.ownsRow w.heap.size 78 2 v' (lowE l).length (pcells (lowE l)) ∧ Below w.heap.size w w' := by
  have hE := spec_ExprText v l w hr hl
  generalize (if exprOk l then (⟨(exprF 0 l).toArray⟩ : ByteArray) else ⟨#[]⟩) = T at *
  obtain ⟨A, c, rfl, hn, hc, hcell⟩ := id hr
  unfold lowOk
  cases hx : exprOk l
  · have h0 : lowE l = [] := by unfold lowE; rw [hx]; rfl
    rw [hx] at hE
    rw [h0]
    have HE := hide hE; clear hE hr hcell hx h0
    go_enter Try.func21, Try.ntmps21
    go_wp2_with (go_at_call 48; refine (HE.out).mono ?_; rintro e w1 ⟨rfl, hb1⟩)
    go_ret2
    exact ⟨_, rfl, World.ownsRow_nil _ _ _ _, hb1⟩
  · have h0 : lowE l = l.map lowT := by unfold lowE; rw [hx]; rfl
    obtain ⟨_, _, h12⟩ := exprOk_iff.1 hx
    have hc2 := fun W (hW : Below w.heap.size w W) => spec_l6Expr _ l W (hr.here hW) h12
    rw [hx] at hE
    rw [h0, List.length_map]
    have HE := hide hE; have HC := Lib.hid hc2; clear hE hr hcell hx h0 h12 hc2
    go_enter Try.func21, Try.ntmps21
    go_wp2_with (first
      | (go_at_call 48; refine (HE.out).mono ?_; rintro e w1 ⟨rfl, hb1⟩; have Hb1 := hide hb1; clear hb1)
      | (go_at_call 49; refine (HC.out _ Hb1.out).mono ?_; rintro e w2 ⟨v2, rfl, hown2, hb2⟩))
    go_ret2
    exact ⟨_, rfl, own_base hown2 Hb1.out.size, Hb1.out.trans (hb2.mono Hb1.out.size)⟩
/-- ContainsFunc over tokens that are read -/
theorem anyTokL (v : Value) (l : List P2) (p : P2 → Bool) (g : Nat) (eg : ∀ args w, (callFunc g args).run Try.prog w = .ok (.enter g args) w) (w : World) (hr : Rd w w.heap.size v l.length (pcells l)) (hl : l.length ≤ 9223372036854775807)
    (hp : ∀ o n W, Calls Try.prog g #[.agg #[.int .i64 o, .int .i64 n]] W fun e w' => e = .returned (.bool (p ⟨o, n⟩)) ∧ Below W.heap.size W w') :
    Calls Try.prog 52 #[v, .func (.func g) #[] #[]] w fun e w' => e = .returned (.bool (l.any p)) ∧ Below w.heap.size w w' := by
  obtain ⟨A, c, rfl, hn, hc, hcell⟩ := id hr
  rw [← anyq_list (q := fun j => p (l.getD j ⟨0, 0⟩)) (p := p) (l := l) (fun j hj => by simp [List.getD, List.getElem?_eq_getElem hj])]
  refine cfTok A l.length c (fun j => .int .i64 (l.getD j ⟨0, 0⟩).o) (fun j => .int .i64 (l.getD j ⟨0, 0⟩).n) _ g #[] eg w hl (fun j hj => ?_) (fun j hj W hW => hp _ _ W)
  obtain ⟨b, o, hA, hbB, hs0, hs1⟩ := hr.two hj
  exact ⟨b, o, hA, hbB, by rw [hs0]; simp [List.getD, List.getElem?_eq_getElem hj], by rw [hs1]; simp [List.getD, List.getElem?_eq_getElem hj]⟩
theorem impl_LowerExpr1 (o n : Int) (w : World) : Calls Try.prog 53 #[.agg #[.int .i64 o, .int .i64 n]] w fun e w' => e = .returned (.bool (!tokOk 100 100 ⟨o, n⟩)) ∧ Below w.heap.size w w' := by
  have hc := fun W => impl_isTok o n 100 100 (by decide) (by decide) (by decide) (by decide) W
  have HC := Lib.hid hc; clear hc
  go_enter Try.func53, Try.ntmps53
  go_wp2_with (go_at_call 54; refine (HC.out _).mono ?_; rintro e w1 ⟨rfl, hb1⟩)
  go_ret
  exact ⟨rfl, by first | exact hb1 | exact ((Below.refl _ _).alloc (Nat.le_refl _) _).trans (hb1.mono (by simp))⟩
theorem any_notT {l : List P2} : (l.any fun t => !tokOk 100 100 t) = !(l.all fun t => tokOk 100 100 t) := by
  rw [List.all_eq_not_any_not]; simp
set_option maxHeartbeats 3200000 in
theorem impl_lowerExpr (v : Value) (l : List P2) (w : World) (hr : Rd w w.heap.size v l.length (pcells l)) (hl : l.length ≤ 12) (hok : ∀ t ∈ l, tokOk 100 100 t = true) :
    Calls Try.prog 55 #[v] w fun e w' => ∃ v', e = .returned v' ∧ w'.ownsRow w.heap.size 78 2 v' l.length (pcells (l.map lowT)) ∧ Below w.heap.size w w' := by
  obtain ⟨A, c, rfl, hn, hc, hcell⟩ := id hr
  have Hr := hide hr; clear hr hcell
  go_enter Try.func55, Try.ntmps55
  go_wp2
  go_loopw [3, 9] (fun s i wr => ∃ (k : Nat) (acc : List P2), k ≤ l.length ∧ i = .int .i64 k ∧ acc.length = k ∧ acc ++ (l.drop k).map lowT = l.map lowT ∧ wr.ownsRow w.heap.size 78 2 s acc.length (pcells acc) ∧ Below w.heap.size w wr) (fun _ i _ => l.length - (intOf i).toNat)
  case atStart => exact ⟨0, [], by omega, rfl, rfl, rfl, World.ownsRow_nil _ _ _ _, Below.refl _ _⟩
  case round =>
    obtain ⟨k, acc, hk, rfl, hak, hacc, hown, hb⟩ := hrel
    by_cases hlt : k < l.length
    · have hst := low_step hlt hacc
      obtain ⟨b, o, rfl, hbB, s0, s1⟩ := Hr.out.two hlt
      have q0 := (hb.cell (p := ⟨b, o + k * 2, none⟩) hbB).trans s0
      have q1 := (hb.cell (p := ⟨b, o + k * 2 + 1, none⟩) hbB).trans s1
      have hbw : b < wr.heap.size := Nat.lt_of_lt_of_le hbB hb.size
      have ht := hok _ (List.getElem_mem hlt)
      clear hok
      generalize l[k] = t at *
      obtain ⟨to, tn⟩ := t
      dsimp only at *
      have hz : to = 9 ∨ to = 10 → tn = 0 := fun h => by
        rw [tokOk_other (by omega) (by omega) (by omega)] at ht
        exact of_decide_eq_true (Bool.and_eq_true _ _ ▸ ht).2
      have Hz := Lib.hid hz
      clear ht hz
      have Hst := hide hst; have Hak := hide hak; have Hb := hide hb; have Ho := hide hown
      have hal : acc.length ≤ 12 := by omega
      clear s0 s1 hb hown hacc hst hak
      by_cases o0 : to = 1
      · subst o0
        rw [show lowT ⟨1, tn⟩ = ⟨1, tn⟩ from rfl] at Hst
        have Hb2 := hide ((Hb.out.alloc Hb.out.size (.cells #[.int .i64 1, .int .i64 tn] 70)).alloc (by rw [World.size_alloc]; have := Hb.out.size; omega) (.cells #[.int .i64 1, .int .i64 tn] 78))
        have Ho2 := hide ((Ho.out.alloc (.cells #[.int .i64 1, .int .i64 tn] 70)).alloc (.cells #[.int .i64 1, .int .i64 tn] 78))
        go_wp2_with (at_builtin; refine wpList_push' rfl _ _ _ rfl okIns rfl Ho2.out _ rfl (by simp only [World.size_alloc]) rfl (by simp [Value.oneCell']) (by unfold maxLen; omega) (by omega) Hb2.out.size ?_; intro v1 w2 hown1 hg1)
        go_roundw
        case rel => exact ⟨k + 1, acc ++ [⟨1, tn⟩], by omega, by go_num, by rw [List.length_append, Hak.out]; rfl, Hst.out, by rw [pcells_snoc, List.length_append]; exact hown1, belowPush Hb2.out Ho2.out Hb2.out.size hg1⟩
        case measure => simp [intOf]; omega
      by_cases o1 : to = 2
      · subst o1
        rw [show lowT ⟨2, tn⟩ = ⟨2, tn⟩ from rfl] at Hst
        have Hb2 := hide ((Hb.out.alloc Hb.out.size (.cells #[.int .i64 2, .int .i64 tn] 70)).alloc (by rw [World.size_alloc]; have := Hb.out.size; omega) (.cells #[.int .i64 2, .int .i64 tn] 78))
        have Ho2 := hide ((Ho.out.alloc (.cells #[.int .i64 2, .int .i64 tn] 70)).alloc (.cells #[.int .i64 2, .int .i64 tn] 78))
        go_wp2_with (at_builtin; refine wpList_push' rfl _ _ _ rfl okIns rfl Ho2.out _ rfl (by simp only [World.size_alloc]) rfl (by simp [Value.oneCell']) (by unfold maxLen; omega) (by omega) Hb2.out.size ?_; intro v1 w2 hown1 hg1)
        go_roundw
        case rel => exact ⟨k + 1, acc ++ [⟨2, tn⟩], by omega, by go_num, by rw [List.length_append, Hak.out]; rfl, Hst.out, by rw [pcells_snoc, List.length_append]; exact hown1, belowPush Hb2.out Ho2.out Hb2.out.size hg1⟩
        case measure => simp [intOf]; omega
      by_cases o2 : to = 11
      · subst o2
        rw [show lowT ⟨11, tn⟩ = ⟨7, tn⟩ from rfl] at Hst
        have Hb2 := hide ((Hb.out.alloc Hb.out.size (.cells #[.int .i64 11, .int .i64 tn] 70)).alloc (by rw [World.size_alloc]; have := Hb.out.size; omega) (.cells #[.int .i64 7, .int .i64 tn] 78))
        have Ho2 := hide ((Ho.out.alloc (.cells #[.int .i64 11, .int .i64 tn] 70)).alloc (.cells #[.int .i64 7, .int .i64 tn] 78))
        go_wp2_with (at_builtin; refine wpList_push' rfl _ _ _ rfl okIns rfl Ho2.out _ rfl (by simp only [World.size_alloc]) rfl (by simp [Value.oneCell']) (by unfold maxLen; omega) (by omega) Hb2.out.size ?_; intro v1 w2 hown1 hg1)
        go_roundw
        case rel => exact ⟨k + 1, acc ++ [⟨7, tn⟩], by omega, by go_num, by rw [List.length_append, Hak.out]; rfl, Hst.out, by rw [pcells_snoc, List.length_append]; exact hown1, belowPush Hb2.out Ho2.out Hb2.out.size hg1⟩
        case measure => simp [intOf]; omega
      by_cases o3 : to = 9
      · obtain rfl := Hz.out (by omega)
        subst o3
        rw [show lowT ⟨9, 0⟩ = ⟨5, 0⟩ from rfl] at Hst
        have Hb2 := hide ((Hb.out.alloc Hb.out.size (.cells #[.int .i64 9, .int .i64 0] 70)).alloc (by rw [World.size_alloc]; have := Hb.out.size; omega) (.cells #[.int .i64 5, .int .i64 0] 78))
        have Ho2 := hide ((Ho.out.alloc (.cells #[.int .i64 9, .int .i64 0] 70)).alloc (.cells #[.int .i64 5, .int .i64 0] 78))
        go_wp2_with (at_builtin; refine wpList_push' rfl _ _ _ rfl okIns rfl Ho2.out _ rfl (by simp only [World.size_alloc]) rfl (by simp [Value.oneCell']) (by unfold maxLen; omega) (by omega) Hb2.out.size ?_; intro v1 w2 hown1 hg1)
        go_roundw
        case rel => exact ⟨k + 1, acc ++ [⟨5, 0⟩], by omega, by go_num, by rw [List.length_append, Hak.out]; rfl, Hst.out, by rw [pcells_snoc, List.length_append]; exact hown1, belowPush Hb2.out Ho2.out Hb2.out.size hg1⟩
        case measure => simp [intOf]; omega
      by_cases o4 : to = 10
      · obtain rfl := Hz.out (by omega)
        subst o4
        rw [show lowT ⟨10, 0⟩ = ⟨6, 0⟩ from rfl] at Hst
        have Hb2 := hide ((Hb.out.alloc Hb.out.size (.cells #[.int .i64 10, .int .i64 0] 70)).alloc (by rw [World.size_alloc]; have := Hb.out.size; omega) (.cells #[.int .i64 6, .int .i64 0] 78))
        have Ho2 := hide ((Ho.out.alloc (.cells #[.int .i64 10, .int .i64 0] 70)).alloc (.cells #[.int .i64 6, .int .i64 0] 78))
        go_wp2_with (at_builtin; refine wpList_push' rfl _ _ _ rfl okIns rfl Ho2.out _ rfl (by simp only [World.size_alloc]) rfl (by simp [Value.oneCell']) (by unfold maxLen; omega) (by omega) Hb2.out.size ?_; intro v1 w2 hown1 hg1)
        go_roundw
        case rel => exact ⟨k + 1, acc ++ [⟨6, 0⟩], by omega, by go_num, by rw [List.length_append, Hak.out]; rfl, Hst.out, by rw [pcells_snoc, List.length_append]; exact hown1, belowPush Hb2.out Ho2.out Hb2.out.size hg1⟩
        case measure => simp [intOf]; omega
      rw [lowT_other o0 o1 o2 o3 o4] at Hst
      have b0 := int_neT o0; have b1 := int_neT o1; have b2 := int_neT o2; have b3 := int_neT o3; have b4 := int_neT o4
      clear o0 o1 o2 o3 o4
      have Hb2 := hide ((Hb.out.alloc Hb.out.size (.cells #[.int .i64 to, .int .i64 tn] 70)).alloc (by rw [World.size_alloc]; have := Hb.out.size; omega) (.cells #[.int .i64 4, .int .i64 to] 78))
      have Ho2 := hide ((Ho.out.alloc (.cells #[.int .i64 to, .int .i64 tn] 70)).alloc (.cells #[.int .i64 4, .int .i64 to] 78))
      go_wp2_with (at_builtin; refine wpList_push' rfl _ _ _ rfl okIns rfl Ho2.out _ rfl (by simp only [World.size_alloc]) rfl (by simp [Value.oneCell']) (by unfold maxLen; omega) (by omega) Hb2.out.size ?_; intro v1 w2 hown1 hg1)
      go_roundw
      case rel => exact ⟨k + 1, acc ++ [⟨4, to⟩], by omega, by go_num, by rw [List.length_append, Hak.out]; rfl, Hst.out, by rw [pcells_snoc, List.length_append]; exact hown1, belowPush Hb2.out Ho2.out Hb2.out.size hg1⟩
      case measure => simp [intOf]; omega
    · obtain rfl : k = l.length := by omega
      rw [List.drop_length, List.map_nil, List.append_nil] at hacc
      subst hacc
      have Ho := hide hown; have Hb := hide hb; clear hown hb
      go_wp2
      go_ret
      exact ⟨_, rfl, by simpa using Ho.out, Hb.out⟩
set_option maxHeartbeats 1600000 in
theorem impl_LowerExpr (v : Value) (l : List P2) (w : World) (hr : Rd w w.heap.size v l.length (pcells l)) (hl : l.length ≤ 9223372036854775807) :
    Calls Try.prog 23 #[v] w fun e w' => ∃ v', e = .returned (.tuple #[v', .bool (lowOk l)]) ∧ w'.ownsRow w.heap.size 78 2 v' (lowE l).length (pcells (lowE l)) ∧ Below w.heap.size w w' := by
  have hx : exprOk l = ((l.all fun t => tokOk 100 100 t) && inB l.length 1 12) := rfl
  have hin := fun w => impl_within l.length 1 12 w
  have hA := anyTokL v l (fun t => !tokOk 100 100 t) 53 (enters_of Try.func53 (by kernel_rfl) rfl) w hr hl (fun o n W => impl_LowerExpr1 o n W)
  rw [any_notT] at hA
  obtain ⟨A, c, rfl, hn, hc, hcell⟩ := id hr
  unfold lowOk
  cases hi : inB (l.length : Int) 1 12
  · have hx0 : exprOk l = false := by rw [hx, hi]; simp
    have h0 : lowE l = [] := by unfold lowE; rw [hx0]; rfl
    simp only [hi] at hin
    rw [h0, hx0]
    have HI := Lib.hid hin; clear hin hA hr hcell hx hx0 h0 hi
    go_enter Try.func23, Try.ntmps23
    go_wp2_with (go_at_call 51; refine (HI.out _).mono ?_; rintro e w1 ⟨rfl, rfl⟩)
    go_ret2
    exact ⟨_, rfl, World.ownsRow_nil _ _ _ _, Below.refl _ _⟩
  have hi2 := inB_iff.1 hi
  simp only [hi] at hin
  cases ha : (l.all fun t => tokOk 100 100 t)
  · have hx0 : exprOk l = false := by rw [hx, ha]; simp
    have h0 : lowE l = [] := by unfold lowE; rw [hx0]; rfl
    rw [ha] at hA
    rw [h0, hx0]
    have HI := Lib.hid hin; have HA := hide hA; clear hin hA hr hcell hx hx0 h0 hi ha hi2
    go_enter Try.func23, Try.ntmps23
    go_wp2_with (first
      | (go_at_call 51; refine (HI.out _).mono ?_; rintro e w1 ⟨rfl, rfl⟩)
      | (go_at_call 52; refine (HA.out).mono ?_; rintro e w1 ⟨rfl, hb1⟩))
    go_ret2
    exact ⟨_, rfl, World.ownsRow_nil _ _ _ _, hb1⟩
  · have hx0 : exprOk l = true := by rw [hx, ha, hi]; rfl
    have h0 : lowE l = l.map lowT := by unfold lowE; rw [hx0]; rfl
    have hc2 := fun W (hW : Below w.heap.size w W) => impl_lowerExpr _ l W (hr.here hW) (by omega) (fun t ht => List.all_eq_true.1 ha t ht)
    rw [ha] at hA
    rw [h0, hx0, List.length_map]
    have HI := Lib.hid hin; have HA := hide hA; have HC := Lib.hid hc2; clear hin hA hr hcell hx hx0 h0 hi ha hi2 hc2
    go_enter Try.func23, Try.ntmps23
    go_wp2_with (first
      | (go_at_call 51; refine (HI.out _).mono ?_; rintro e w1 ⟨rfl, rfl⟩)
      | (go_at_call 52; refine (HA.out).mono ?_; rintro e w1 ⟨rfl, hb1⟩; have Hb1 := hide hb1; clear hb1)
      | (go_at_call 55; refine (HC.out _ Hb1.out).mono ?_; rintro e w2 ⟨v2, rfl, hown2, hb2⟩))
    go_ret2
    exact ⟨_, rfl, own_base hown2 Hb1.out.size, Hb1.out.trans (hb2.mono Hb1.out.size)⟩
end Go.Proofs.Ytoloajmgdcpfpaa
