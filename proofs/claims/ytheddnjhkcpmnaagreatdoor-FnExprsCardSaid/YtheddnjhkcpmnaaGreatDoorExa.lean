
/- Drawn expressions, some spoilt: what the Go text returns. No condition. -/
import Derived.Test.YtheddnjhkcpmnaaGreatDoorExg
set_option linter.unusedSimpArgs false
set_option linter.unusedVariables false
set_option maxRecDepth 100000
namespace Go.Proofs.YtheddnjhkcpmnaaGreatDoor
open Go.RowKit

def AnyP (g : Nat) (A : Option Addr) (c : Nat) (zs : List Int) (K : Nat) (w : World) (e : Ending) (w' : World) : Prop :=
  ∃ (v : Value) (l : List P2), e = .returned v ∧ Rd w' w'.heap.size v l.length (pcells l) ∧ l.length ≤ 30 ∧ Cur g A c zs (K + 1000) w' ∧ Dw g w w' ∧ ∀ a n m, v = .slice (some a) n m → g < a.block
theorem own_lit3 (w : World) : (w.alloc (.cells #[.int .i64 1, .int .i64 0, .int .i64 2] 3)).ownsRow w.heap.size 3 1 (.slice (some ⟨w.heap.size, 0, none⟩) 3 3) 3 (icells .i64 [1, 0, 2]) :=
  World.ownsRow_lit (base := w.heap.size) (e := 3) (size := 1) w #[.int .i64 1, .int .i64 0, .int .i64 2] 3 (Nat.le_refl _) (by unfold maxLen; omega) rfl
def amT : List Int := [-1, 3, 99, 100, 2147483648]
theorem cur_am5 {g : Nat} {A : Option Addr} {c : Nat} {zs : List Int} {K : Nat} {w : World} (hc : Cur g A c zs K w) (hK : K ≤ 2000000000000000000) :
    Calls Tryz.prog 38 #[.pointer (some ⟨g, 0, none⟩), .slice (some ⟨w.heap.size, 0, none⟩) 5 5] (w.alloc (.cells #[.int .i64 (-1), .int .i64 3, .int .i64 99, .int .i64 100, .int .i64 2147483648] 3)) (AmP g A c zs K (w.alloc (.cells #[.int .i64 (-1), .int .i64 3, .int .i64 99, .int .i64 100, .int .i64 2147483648] 3)) amT) :=
  cur_among g A c zs K _ w.heap.size 3 amT (hc.below ((Below.refl _ _).alloc (Nat.le_refl _) (.cells (icells .i64 amT).toArray 3))) (by omega) (Bk.new w 3 _) (Nat.ne_of_gt hc.lt) (by decide) (by decide)
theorem Rd.tail2 {w : World} {B q n c : Nat} {t : P2} {l : List P2} (h : Rd w B (.slice (some ⟨q, 0, none⟩) (n + 1) (c + 1)) (n + 1) (pcells (t :: l))) : Rd w B (.slice (some ⟨q, 2, none⟩) n c) n (pcells l) := by
  obtain ⟨A', c', e, h1, h2, hc⟩ := h
  cases e
  refine ⟨_, _, rfl, by omega, by omega, fun j u hu => ?_⟩
  obtain ⟨b, o, e, hb, hcell⟩ := hc (j + 2) u (by
    have : pcells (t :: l) = [.int .i64 t.o, .int .i64 t.n] ++ pcells l := rfl
    rw [this, List.getElem?_append_right (by simp)]; simpa using hu)
  cases e
  exact ⟨q, 2, rfl, hb, by rw [show 2 + j = 0 + (j + 2) by omega]; exact hcell⟩
theorem own_pos {w : World} {base n : Nat} {e : TypeId} {size : Nat} {v : Value} {xs : List Value} (h : w.ownsRow base e size v n xs) (hn : 1 ≤ n) : ∃ q cap, v = .slice (some ⟨q, 0, none⟩) n cap ∧ n ≤ cap ∧ cap ≤ maxLen ∧ base ≤ q ∧ q < w.heap.size := by
  rcases h.2 with ⟨_, h0⟩ | ⟨q, cap, cur, rfl, hg, hh, h1, h2, _⟩
  · omega
  · exact ⟨q, cap, rfl, h1, h2, hg, (Array.getElem?_eq_some_iff.1 hh).1⟩
theorem pcells_s0 (t : P2) (l : List P2) (z : Int) : (pcells (t :: l)).set 0 (.int .i64 z) = pcells (⟨z, t.n⟩ :: l) := rfl
theorem pcells_s1 (t : P2) (l : List P2) (z : Int) : (pcells (t :: l)).set 1 (.int .i64 z) = pcells (⟨t.o, z⟩ :: l) := rfl
section
variable {g : Nat} {A : Option Addr} {c : Nat} {zs : List Int} {K K' : Nat} {w W : World} {base q cap : Nat} {t : P2} {l : List P2}
theorem AnyP.same {v : Value} {l : List P2} (ho : W.ownsRow base 40 2 v l.length (pcells l)) (hl : l.length ≤ 30) (hc : Cur g A c zs K' W) (hK : K' ≤ K + 1000) (hd : Dw g w W) (hgb : g < base) : AnyP g A c zs K w (.returned v) W :=
  ⟨_, l, rfl, Rd.of_own ho, hl, hc.more hK, hd, fun a n m e => by
    rcases ho.2 with ⟨h0, _⟩ | ⟨k, cap, cur, h0, hk, _⟩
    · rw [h0] at e; cases e
    · rw [h0] at e; cases e; exact Nat.lt_of_lt_of_le hgb hk⟩
theorem AnyP.set {i : Nat} {z : Int} {l2 : List P2} (ho : W.ownsRow base 40 2 (.slice (some ⟨q, 0, none⟩) (l.length + 1) cap) (l.length + 1) (pcells (t :: l))) (he : (pcells (t :: l)).set i (.int .i64 z) = pcells l2) (hl2 : l2.length = l.length + 1) (hl : l.length + 1 ≤ 30) (hc : Cur g A c zs K' W) (hK : K' ≤ K + 1000) (hd : Dw g w W) (hgb : g < base) (hwb : w.heap.size ≤ base) (hq : base ≤ q) :
    AnyP g A c zs K w (.returned (.slice (some ⟨q, 0, none⟩) (l.length + 1) cap)) (W.setCell ⟨q, i, none⟩ (.int .i64 z)) := by
  have h := Rd.of_own (own_set ho i (.int .i64 z))
  rw [he] at h
  have hb : Below base W (W.setCell ⟨q, i, none⟩ (.int .i64 z)) := (Below.refl base W).setCell (p := ⟨q, i, none⟩) hq _
  exact ⟨_, l2, rfl, by rw [hl2]; exact h, by omega, (hc.keepG2 hb hgb).more hK, hd.belowW hb hwb, fun a n m e => by cases e; exact Nat.lt_of_lt_of_le hgb hq⟩
theorem AnyP.tail {c' : Nat} (ho : W.ownsRow base 40 2 (.slice (some ⟨q, 0, none⟩) (l.length + 1) (c' + 1)) (l.length + 1) (pcells (t :: l))) (hl : l.length ≤ 30) (hc : Cur g A c zs K' W) (hK : K' ≤ K + 1000) (hd : Dw g w W) (hgb : g < base) (hq : base ≤ q) : AnyP g A c zs K w (.returned (.slice (some ⟨q, 2, none⟩) l.length c')) W :=
  ⟨_, l, rfl, (Rd.of_own ho).tail2, hl, hc.more hK, hd, fun a n m e => by cases e; exact Nat.lt_of_lt_of_le hgb hq⟩
theorem AnyP.none0 (hc : Cur g A c zs K' W) (hK : K' ≤ K + 1000) (hd : Dw g w W) {q o : Nat} (hq : g < q) : AnyP g A c zs K w (.returned (.slice (some ⟨q, o, none⟩) 0 0)) W :=
  ⟨_, [], rfl, ⟨_, _, rfl, Nat.le_refl _, by unfold maxLen; omega, fun j u hu => by simp [pcells] at hu⟩, by simp, hc.more hK, hd, fun a n m e => by cases e; exact hq⟩
end
set_option maxHeartbeats 6400000 in
theorem cur_anyExpr (g : Nat) (A : Option Addr) (c : Nat) (zs : List Int) (K : Nat) (w : World) (hc : Cur g A c zs K w) (hK : K ≤ 900000000000000000) :
    Calls Tryz.prog 21 #[.pointer (some ⟨g, 0, none⟩)] w (AnyP g A c zs K w) := by
  have Hc := hide hc
  have Hd := hide (Dw.refl g w)
  have hgl := hc.lt
  have hpick4 := fun (x : Int) (h : 0 ≤ x ∧ (1 ≤ (4 : Int) → x < 4)) => pick_nat (n := 4) h (by decide)
  have HP4 := Lib.hid hpick4
  clear hc hpick4
  go_enter Tryz.func21, Tryz.ntmps21
  go_upto_region 2 with (first
    | (go_at_call 39; refine (cur_pick _ _ _ _ _ _ _ Hc.out (by omega) (by omega)).mono ?_; rintro e w1 ⟨x, rfl, hx, hc1, hd1⟩; obtain ⟨d, rfl, hd4⟩ := HP4.out _ hx; have Hl := hide (own_lit3 w1); have hg1 := hc1.lt; have Hc := hide (hc1.below ((Below.refl _ _).alloc (Nat.le_refl _) (.cells #[.int .i64 1, .int .i64 0, .int .i64 2] 3))); have Hd := hide ((Hd.out.trans hd1).alloc (.cells #[.int .i64 1, .int .i64 0, .int .i64 2] 3)); clear hc1 hd1 hx)
    | (go_at_call 31; refine (cur_one _ _ _ _ _ _ _ Hc.out (by omega) (by omega)).mono ?_; rintro e w2 ⟨b, rfl, hc1, hd1⟩; have Hl := hide (hd1.own Hl.out hg1); have Hc := hide hc1; have Hd := hide (Hd.out.trans hd1); clear hc1 hd1)
    | (go_at_call 44; have hT3 := eT3 (d := d) (by omega); refine (cur_expr g A c zs 3 (by decide) (by decide) [1, 0, 2] rfl d (by omega) _ _ _ _ _ Hc.out (by omega) Hl.out hg1).mono ?_; rintro e w3 ⟨v, l, rfl, ho, _, hl1, hl2, hc1, hd1⟩; have hL3 := eL3 (d := d) (by omega); have hza := Hd.out.size; have Ho := hide ho; have Hc := hide hc1; have Hd := hide (Hd.out.trans hd1); clear hc1 hd1))
  have hgb := Nat.lt_of_lt_of_le hgl hza
  obtain ⟨q, cap, rfl, hnc, hcm, hqb, hql⟩ := own_pos ho hl1
  unfold maxLen at hcm
  clear ho
  obtain ⟨t, l', rfl⟩ : ∃ t l', l = t :: l' := by
    cases l with
    | nil => simp at hl1
    | cons t l' => exact ⟨t, l', rfl⟩
  obtain ⟨c', rfl⟩ : ∃ c', cap = c' + 1 := ⟨cap - 1, by simp at hnc; omega⟩
  simp only [List.length_cons] at hnc hl1 hl2
  rw [List.length_cons] at Ho
  rw [List.length_cons]
  by_cases hc0 : c' = 0
  · obtain rfl : l' = [] := List.eq_nil_of_length_eq_zero (by omega)
    subst hc0
    go_wp2_with (first
      | (go_at_call_of 39 (Value.int .i64 20); refine (cur_pick _ _ _ _ _ _ _ Hc.out (by omega) (by omega)).mono ?_; rintro e w4 ⟨y, rfl, ⟨hy1, _⟩, hc1, hd1⟩; have Ho := hide (hd1.own Ho.out hgb); have hql := (Ho.out.lt q rfl).2; have Hc := hide hc1; have Hd := hide (Hd.out.trans hd1); clear hc1 hd1)
      | (go_at_call 39; refine (cur_pick _ _ _ _ _ _ _ Hc.out (by omega) (by omega)).mono ?_; rintro e w5 ⟨z, rfl, _, hc1, hd1⟩; have Ho := hide (hd1.own Ho.out hgb); have hql := (Ho.out.lt q rfl).2; obtain ⟨u0, hu0⟩ := own_at Ho.out (j := 0) (by omega); have hf0 := Ho.out.frozenAt 0; have Hc := hide hc1; have Hd := hide (Hd.out.trans hd1); clear hc1 hd1)
      | (go_at_call 38; refine (cur_am5 Hc.out (by omega)).mono ?_; rintro e w6 ⟨z, rfl, _, hc1, hd1⟩; have Ho := hide (hd1.own (Ho.out.alloc _) hgb); have hql := (Ho.out.lt q rfl).2; obtain ⟨u1, hu1⟩ := own_at Ho.out (j := 1) (by omega); have hf1 := Ho.out.frozenAt 1; have Hc := hide hc1; have Hd := hide ((Hd.out.alloc _).trans hd1); clear hc1 hd1)
      | (at_builtin; refine wpList_catOwn rfl _ _ _ rfl okTok rfl Ho.out rfl Ho.out (pcells_one _) (by unfold maxLen; omega) (by omega) (own_base_le Ho.out (by omega)) ?_; intro v1 w7 hown hgr; have Ho7 := hide hown; have Hc := hide (Hc.out.gro Ho.out hgb (own_base_le Ho.out (by omega)) hgr); have Hd := hide (Hd.out.gro Ho.out hza (own_base_le Ho.out (by omega)) hgr); clear hown hgr))
    all_goals
      go_ret
      first
        | exact AnyP.none0 Hc.out (by omega) Hd.out (Nat.lt_of_lt_of_le hgb hqb)
        | exact AnyP.tail Ho.out (by omega) Hc.out (by omega) Hd.out hgb hqb
        | exact AnyP.set Ho.out (pcells_s1 _ _ _) (by simp) (by omega) Hc.out (by omega) Hd.out hgb hza hqb
        | exact AnyP.set Ho.out (pcells_s0 _ _ _) (by simp) (by omega) Hc.out (by omega) Hd.out hgb hza hqb
        | exact AnyP.same (l := [t]) Ho.out (by simp <;> omega) Hc.out (by omega) Hd.out hgb
        | exact AnyP.same (l := [t] ++ [t]) (by rw [pcells_app, List.length_append]; exact Ho7.out) (by simp <;> omega) Hc.out (by omega) Hd.out hgb
  · have hc1I : (1 : Int) < (c' : Int) + 1 := by omega
    have hcne : ¬ c' + 1 = 1 := by omega
    go_wp2_with (first
      | (go_at_call_of 39 (Value.int .i64 20); refine (cur_pick _ _ _ _ _ _ _ Hc.out (by omega) (by omega)).mono ?_; rintro e w4 ⟨y, rfl, ⟨hy1, _⟩, hc1, hd1⟩; have Ho := hide (hd1.own Ho.out hgb); have hql := (Ho.out.lt q rfl).2; have Hc := hide hc1; have Hd := hide (Hd.out.trans hd1); clear hc1 hd1)
      | (go_at_call 39; refine (cur_pick _ _ _ _ _ _ _ Hc.out (by omega) (by omega)).mono ?_; rintro e w5 ⟨z, rfl, _, hc1, hd1⟩; have Ho := hide (hd1.own Ho.out hgb); have hql := (Ho.out.lt q rfl).2; obtain ⟨u0, hu0⟩ := own_at Ho.out (j := 0) (by omega); have hf0 := Ho.out.frozenAt 0; have Hc := hide hc1; have Hd := hide (Hd.out.trans hd1); clear hc1 hd1)
      | (go_at_call 38; refine (cur_am5 Hc.out (by omega)).mono ?_; rintro e w6 ⟨z, rfl, _, hc1, hd1⟩; have Ho := hide (hd1.own (Ho.out.alloc _) hgb); have hql := (Ho.out.lt q rfl).2; obtain ⟨u1, hu1⟩ := own_at Ho.out (j := 1) (by omega); have hf1 := Ho.out.frozenAt 1; have Hc := hide hc1; have Hd := hide ((Hd.out.alloc _).trans hd1); clear hc1 hd1)
      | (at_builtin; refine wpList_catOwn rfl _ _ _ rfl okTok rfl Ho.out rfl Ho.out (pcells_one _) (by unfold maxLen; omega) (by omega) (own_base_le Ho.out (by omega)) ?_; intro v1 w7 hown hgr; have Ho7 := hide hown; have Hc := hide (Hc.out.gro Ho.out hgb (own_base_le Ho.out (by omega)) hgr); have Hd := hide (Hd.out.gro Ho.out hza (own_base_le Ho.out (by omega)) hgr); clear hown hgr))
    all_goals
      go_ret
      first
        | exact AnyP.none0 Hc.out (by omega) Hd.out (Nat.lt_of_lt_of_le hgb hqb)
        | exact AnyP.tail Ho.out (by omega) Hc.out (by omega) Hd.out hgb hqb
        | exact AnyP.set Ho.out (pcells_s1 _ _ _) (by simp) (by omega) Hc.out (by omega) Hd.out hgb hza hqb
        | exact AnyP.set Ho.out (pcells_s0 _ _ _) (by simp) (by omega) Hc.out (by omega) Hd.out hgb hza hqb
        | exact AnyP.same (l := t :: l') Ho.out (by simp <;> omega) Hc.out (by omega) Hd.out hgb
        | exact AnyP.same (l := (t :: l') ++ (t :: l')) (by rw [pcells_app, List.length_append]; exact Ho7.out) (by simp <;> omega) Hc.out (by omega) Hd.out hgb
end Go.Proofs.YtheddnjhkcpmnaaGreatDoor
