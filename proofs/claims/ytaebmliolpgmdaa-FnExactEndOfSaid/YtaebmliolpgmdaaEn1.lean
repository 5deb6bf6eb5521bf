
/- EndOf on both sides, and what the laws do with outcomes. No condition. -/
import Derived.Test.YtaebmliolpgmdaaNdVm
import Derived.Test.YtaebmliolpgmdaaGm
import Derived.Test.YtaebmliolpgmdaaIn
import Derived.Deep.RegionHeld3
import Derived.Lib.SliceRun
set_option linter.unusedSimpArgs false
set_option linter.unusedVariables false
set_option maxRecDepth 100000
namespace Go.Proofs.Ytaebmliolpgmdaa
open Go.RowKit

theorem rd_some {w : World} {B n : Nat} {A : Option Addr} {c : Nat} {cs : List Value} (h : Rd w B (.slice A n c) n cs) (hn : 0 < cs.length) : ∃ b o, A = some ⟨b, o, none⟩ ∧ b < B ∧ ∀ j u, cs[j]? = some u → w.cell? ⟨b, o + j, none⟩ = some u := by
  obtain ⟨A', c', e, h1, h2, hc⟩ := h
  cases e
  obtain ⟨b, o, hA, hb, _⟩ := hc 0 cs[0] (List.getElem?_eq_getElem hn)
  subst hA
  refine ⟨b, o, rfl, hb, fun j u hu => ?_⟩
  obtain ⟨b', o', e, _, h⟩ := hc j u hu
  cases e
  exact h
theorem run_append_nilC {P : Program} {w : World} (base : Nat) (t ty e : TypeId) (i : TypeInfo) (size : Nat) (ht : P.underlying t = some (.slice e)) (hi : P.info? e = some i)
    (v : Value) (n c : Nat) (xs : List Value) (hown : w.ownsRow base e size v n xs) :
    (Builtin.append_ #[t, t] ty #[v, .slice none 0 c]).run P w = .ok v w := by
  rcases hown.2 with ⟨rfl, rfl⟩ | ⟨g, cap, cur, rfl, _, _, hnc, _⟩
  · simp [Builtin.append_, run_underlying ht, sizeOf, typeInfo, hi, Builtin.lenOf, Builtin.firstCells]
  · simp [Builtin.append_, run_underlying ht, sizeOf, typeInfo, hi, Builtin.lenOf, Builtin.firstCells, hnc, storeCells]
theorem wpList_catNil {P : Program} {ops : Array Oper} {rest : List Oper} {o : Oper} {a : Act} {Q : Exit → Act → World → Prop} (hgd : o.guard = none) (s x : Operand) (t : TypeId)
    (ho : o.op = .call { callee := .builtin .append, args := #[s, x], argTypes := #[t, t] }) {e : TypeId} {z : Value} {size bytes : Nat} (hT : SliceOk P t e z size bytes)
    {w : World} {base : Nat} {v : Value} {n c : Nat} {xs : List Value} (hs : a.eval s = v) (hown : w.ownsRow base e size v n xs) (hx : a.eval x = .slice none 0 c)
    (h : wpList P ops Q rest (a.put o.dst v) w) : wpList P ops Q (o :: rest) a w := by
  obtain ⟨ht, i, hi, hz, hsz, hby, hzs, hs0⟩ := hT
  refine wpList_plain hgd fun K hK => ?_
  have hrun := run_append_nilC (P := P) (w := w) base t o.type e i size ht hi v n c xs hown
  unfold Oper.wp
  simp [execOp, ho, resolve, invoke, builtin, hs, hx, hrun, Result.andThen]
  exact hK _ _ h
/-- 'append(s, x...)' where x is empty -/
theorem wpList_catEmpty {P : Program} {ops : Array Oper} {rest : List Oper} {o : Oper} {a : Act} {Q : Exit → Act → World → Prop} (hgd : o.guard = none) (s x : Operand) (t : TypeId)
    (ho : o.op = .call { callee := .builtin .append, args := #[s, x], argTypes := #[t, t] }) {e : TypeId} {z : Value} {bytes : Nat} (hT : SliceOk P t e z 1 bytes)
    {w : World} {base : Nat} {v : Value} {p : Addr} {c n : Nat} {xs : List Value} (hs : a.eval s = v) (hown : w.ownsRow base e 1 v n xs) (hx : a.eval x = .slice (some p) 0 c)
    (h63 : n + 0 ≤ maxLen) (hbytes : (n + 0) * bytes ≤ 140737488355328) (hbase : base ≤ w.heap.size)
    (h : ∀ v' w', w'.ownsRow base e 1 v' n xs → Gro w w' v v' → wpList P ops Q rest (a.put o.dst v') w') :
    wpList P ops Q (o :: rest) a w := by
  obtain ⟨ht, i, hi, hz, hsz, hby, hzs, hs0⟩ := hT
  refine wpList_append_own_at (w := w) hgd s x t ho base e i z 1 bytes ht hi hz hsz hby hzs hs0 v n xs hs hown p 0 c [] hx (by simp) (fun j u hj => by simp at hj) (fun u hu => by cases hu) h63 hbytes hbase (fun v' w' k1 k2 _ k4 => h v' w' (by simpa using k1) ⟨k2, ?_⟩)
  rcases k4 with e | e
  · exact .inl e
  · exact .inr ⟨_, e, Nat.le_refl _⟩
set_option maxHeartbeats 800000 in
theorem spec_l1Own (v : Value) (l : List Int) (w : World) (hr : Rd w w.heap.size v l.length (icells .i64 l)) (hl : l.length ≤ 1048576) :
    Calls Try.prog 84 #[v] w fun e w' => ∃ v', e = .returned v' ∧ w'.ownsRow w.heap.size 3 1 v' l.length (icells .i64 l) ∧ Below w.heap.size w w' := by
  obtain ⟨A, c, rfl, hn, hc, hcell⟩ := id hr
  have hb0 := (Below.refl w.heap.size w).alloc (Nat.le_refl _) (.cells #[] 3)
  have ho0 := own0 w
  by_cases h0 : l.length = 0
  · have e : l = [] := List.eq_nil_of_length_eq_zero h0
    subst e
    have Hb0 := hide hb0; have Ho0 := hide ho0; clear hb0 ho0 hr hcell h0 hl
    simp only [List.length_nil] at hn hc ⊢
    have Z1 := hide (show 0 + 0 ≤ maxLen by unfold maxLen; omega); have Z2 := hide (show (0 + 0) * 8 ≤ 140737488355328 by omega); have Ho0' := hide Ho0.out
    rcases A with _ | A
    · go_enter Try.func84, Try.ntmps84
      go_wp2_with (first
      | (at_builtin; refine wpList_catNil rfl _ _ _ rfl okI64 rfl Ho0.out rfl ?_)
      | (at_builtin; refine wpList_catEmpty rfl _ _ _ rfl okI64 rfl Ho0.out rfl Z1.out Z2.out Hb0.out.size ?_; intro v1 w1 hown1 hg1; have Ho0 := hide hown1; have Hb0 := hide (Hb0.out.trans (hg1.toBelow Ho0'.out Hb0.out.size))))
      go_ret
      exact ⟨_, rfl, Ho0.out, Hb0.out⟩
    · go_enter Try.func84, Try.ntmps84
      go_wp2_with (first
      | (at_builtin; refine wpList_catNil rfl _ _ _ rfl okI64 rfl Ho0.out rfl ?_)
      | (at_builtin; refine wpList_catEmpty rfl _ _ _ rfl okI64 rfl Ho0.out rfl Z1.out Z2.out Hb0.out.size ?_; intro v1 w1 hown1 hg1; have Ho0 := hide hown1; have Hb0 := hide (Hb0.out.trans (hg1.toBelow Ho0'.out Hb0.out.size))))
      go_ret
      exact ⟨_, rfl, Ho0.out, Hb0.out⟩
  · obtain ⟨b, o, rfl, hb, hu⟩ := rd_some hr (by rw [icells_length]; omega)
    have hu' := fun j u h => (hb0.cell (p := ⟨b, o + j, none⟩) hb).trans (hu j u h)
    have Hb0 := hide hb0; have Ho0 := hide ho0; have Hu := Lib.hid hu'; have Hm := hide (icells_length .i64 l); have Q1 := hide (show 0 + l.length ≤ maxLen by unfold maxLen; omega); have Q2 := hide (show (0 + l.length) * 8 ≤ 140737488355328 by omega); have HN := hide h0
    clear hb0 ho0 hr hcell h0 hu hu' hb
    go_enter Try.func84, Try.ntmps84
    go_wp2_with (at_builtin; refine wpList_catRd rfl _ _ _ rfl okI64 rfl Ho0.out rfl Hu.out Hm.out one_icells Q1.out Q2.out Hb0.out.size ?_; intro v1 w1 hown1 hg1)
    go_ret
    refine ⟨_, rfl, by simpa using hown1, Hb0.out.trans (hg1.toBelow Ho0.out Hb0.out.size)⟩
set_option maxHeartbeats 800000 in
theorem slices_CloneI (v : Value) (l : List Int) (w : World) (hr : Rd w w.heap.size v l.length (icells .i64 l)) (hl : l.length ≤ 1048576) :
    Calls Try.prog 85 #[v] w fun e w' => ∃ v', e = .returned v' ∧ w'.ownsRow w.heap.size 3 1 v' l.length (icells .i64 l) ∧ Below w.heap.size w w' := by
  obtain ⟨A, c, rfl, hn, hc, hcell⟩ := id hr
  have hb0 := (Below.refl w.heap.size w).alloc (Nat.le_refl _) (.cells #[] 3)
  have ho0 := own0 w
  by_cases h0 : l.length = 0
  · have e : l = [] := List.eq_nil_of_length_eq_zero h0
    subst e
    have Hb0 := hide hb0; have Ho0 := hide ho0; clear hb0 ho0 hr hcell h0 hl
    simp only [List.length_nil] at hn hc ⊢
    have Z1 := hide (show 0 + 0 ≤ maxLen by unfold maxLen; omega); have Z2 := hide (show (0 + 0) * 8 ≤ 140737488355328 by omega); have Ho0' := hide Ho0.out
    rcases A with _ | A
    · have heq := fun W => Lib.run_eql_slice_nil (P := Try.prog) W 37 3 none 0 c 0 0 Try.underlying37
      go_enter Try.func85, Try.ntmps85
      go_wp2
      go_ret
      exact ⟨_, rfl, World.ownsRow_nil _ _ _ _, Below.refl _ _⟩
    · have heq := fun W => Lib.run_eql_slice_nil (P := Try.prog) W 37 3 (some A) 0 c 0 0 Try.underlying37
      go_enter Try.func85, Try.ntmps85
      go_wp2_with (first
      | (at_builtin; refine wpList_catNil rfl _ _ _ rfl okI64 rfl Ho0.out rfl ?_)
      | (at_builtin; refine wpList_catEmpty rfl _ _ _ rfl okI64 rfl Ho0.out rfl Z1.out Z2.out Hb0.out.size ?_; intro v1 w1 hown1 hg1; have Ho0 := hide hown1; have Hb0 := hide (Hb0.out.trans (hg1.toBelow Ho0'.out Hb0.out.size))))
      go_ret
      exact ⟨_, rfl, Ho0.out, Hb0.out⟩
  · obtain ⟨b, o, rfl, hb, hu⟩ := rd_some hr (by rw [icells_length]; omega)
    have hu' := fun j u h => (hb0.cell (p := ⟨b, o + j, none⟩) hb).trans (hu j u h)
    have Hb0 := hide hb0; have Ho0 := hide ho0; have Hu := Lib.hid hu'; have Hm := hide (icells_length .i64 l); have Q1 := hide (show 0 + l.length ≤ maxLen by unfold maxLen; omega); have Q2 := hide (show (0 + l.length) * 8 ≤ 140737488355328 by omega); have HN := hide h0
    clear hb0 ho0 hr hcell h0 hu hu' hb
    have heq := fun W => Lib.run_eql_slice_nil (P := Try.prog) W 37 3 (some ⟨b, o, none⟩) l.length c 0 0 Try.underlying37
    go_enter Try.func85, Try.ntmps85
    go_wp2_with (at_builtin; refine wpList_catRd rfl _ _ _ rfl okI64 rfl Ho0.out rfl Hu.out Hm.out one_icells Q1.out Q2.out Hb0.out.size ?_; intro v1 w1 hown1 hg1)
    go_ret
    refine ⟨_, rfl, by simpa using hown1, Hb0.out.trans (hg1.toBelow Ho0.out Hb0.out.size)⟩
end Go.Proofs.Ytaebmliolpgmdaa
