
/- The drawn arguments of the expressions' laws: what the Go text returns. No condition. -/
import Derived.Test.YtheddnjhkcpmnaaGreatDoorExa
import Derived.Test.YtheddnjhkcpmnaaGreatDoorDr3
import Derived.Test.YtheddnjhkcpmnaaGreatDoorLw1
import Derived.Deep.RegionWith
set_option linter.unusedSimpArgs false
set_option linter.unusedVariables false
set_option maxRecDepth 100000
namespace Go.Proofs.YtheddnjhkcpmnaaGreatDoor
open Go.RowKit

theorem Rd.dw {g : Nat} {w w1 : World} {B n : Nat} {v : Value} {cs : List Value} (h : Rd w B v n cs) (hv : ∀ a n m, v = .slice (some a) n m → g < a.block) (hd : Dw g w w1) (hB : B ≤ w.heap.size) : Rd w1 B v n cs := by
  obtain ⟨A, c, rfl, h1, h2, hc⟩ := h
  refine ⟨A, c, rfl, h1, h2, fun j u hu => ?_⟩
  obtain ⟨b, o, hA, hb, hcell⟩ := hc j u hu
  subst hA
  have hne : b ≠ g := by have := hv _ _ _ rfl; simp at this; omega
  exact ⟨b, o, rfl, hb, (World.cell?_of_block (hd.block b hne (by omega))).trans hcell⟩
theorem Rd.dwn {g : Nat} {w w1 : World} {n : Nat} {v : Value} {cs : List Value} {o : Obj} (h : Rd w w.heap.size v n cs) (hv : ∀ a n m, v = .slice (some a) n m → g < a.block) (hd : Dw g (w.alloc o) w1) : Rd w1 w1.heap.size v n cs := by
  have hz := hd.size
  rw [World.size_alloc] at hz
  exact ((h.below ((Below.refl _ _).alloc (Nat.le_refl _) o)).dw hv hd (by rw [World.size_alloc]; omega)).more (by omega)
theorem Rd.alloc {w : World} {n : Nat} {v : Value} {cs : List Value} (h : Rd w w.heap.size v n cs) (o : Obj) : Rd (w.alloc o) (w.alloc o).heap.size v n cs := h.here ((Below.refl _ _).alloc (Nat.le_refl _) o)
def DExprP (w : World) (e : Ending) (w' : World) : Prop := ∃ (v : Value) (l : List P2), e = .returned v ∧ Rd w' w'.heap.size v l.length (pcells l) ∧ l.length ≤ 30 ∧ Below w.heap.size w w'
set_option maxHeartbeats 1600000 in
theorem spec_DrawExprText (v : Value) (zs : List Int) (w : World) (hr : Rd w w.heap.size v zs.length (icells .u8 zs)) (hz : ∀ z ∈ zs, 0 ≤ z ∧ z ≤ 255) :
    Calls Tryz.prog 5 #[v] w (DExprP w) := by
  obtain ⟨A, c, rfl, hc⟩ := cur_start hr hz
  have Hc := hide hc
  clear hr hc
  go_enter Tryz.func5, Tryz.ntmps5
  go_wp2_with (go_at_call 21; refine (cur_anyExpr _ _ _ _ _ _ Hc.out (by decide)).mono ?_; rintro e w1 ⟨v, l, rfl, hr, hl, _, hd, _⟩; have Hr := hide hr; have Hb := hide (dw_below hd); clear hr hd)
  go_ret
  exact ⟨_, l, rfl, Hr.out, hl, Hb.out⟩
def DTextP (w : World) (e : Ending) (w' : World) : Prop := ∃ s : ByteArray, e = .returned (.string s) ∧ s.size ≤ 1000 ∧ Below w.heap.size w w'
set_option maxHeartbeats 1600000 in
theorem spec_DrawReadExpr (v : Value) (zs : List Int) (w : World) (hr : Rd w w.heap.size v zs.length (icells .u8 zs)) (hz : ∀ z ∈ zs, 0 ≤ z ∧ z ≤ 255) :
    Calls Tryz.prog 10 #[v] w (DTextP w) := by
  obtain ⟨A, c, rfl, hc⟩ := cur_start hr hz
  have Hc := hide hc
  have hET : ∀ l : List P2, (if exprOk l then (⟨(exprF 0 l).toArray⟩ : ByteArray) else ⟨#[]⟩).size ≤ 144 := fun l => by
    cases h : exprOk l with
    | false => simp [ByteArray.size]
    | true =>
      obtain ⟨h1, _, h2⟩ := exprOk_iff.1 h
      have := exprF_len h1 0
      simp [ByteArray.size]; omega
  have HET := Lib.hid hET
  clear hr hc hET
  go_enter Tryz.func10, Tryz.ntmps10
  go_wp2_with (first
    | (go_at_call 21; refine (cur_anyExpr _ _ _ _ _ _ Hc.out (by decide)).mono ?_; rintro e w1 ⟨v, l, rfl, hr, hl, hc1, hd, _⟩; have Hr := hide hr; have Hc := hide hc1; have hsz := HET.out l; have Hb := hide (dw_below hd); have hgl := hc1.lt; clear hr hd hc1)
    | (go_at_call 7; refine (spec_ExprText _ l _ Hr.out (by omega)).mono ?_; generalize (if exprOk l then (⟨(exprF 0 l).toArray⟩ : ByteArray) else ⟨#[]⟩) = S at *; rintro e w2 ⟨rfl, hb2⟩; have Hc := hide (Hc.out.below hb2); have Hb := hide (Hb.out.trans (hb2.mono Hb.out.size)); clear hb2)
    | (go_at_call 31; refine (cur_one _ _ _ _ _ _ _ Hc.out (by decide) (by decide)).mono ?_; rintro e w3 ⟨b, rfl, hc1, hd1⟩; have Hc := hide hc1; have Hb := hide (Hb.out.trans (hd1.below (Nat.le_refl _) Hb.out.size)); clear hc1 hd1)
    | (go_at_call 32; refine (cur_spoilt _ _ _ _ _ _ S _ Hc.out (by decide) (by omega) (by decide) (by decide)).mono ?_; rintro e w4 ⟨s, rfl, hs, hc1, hd1⟩; have Hb := hide (Hb.out.trans (hd1.below (Nat.le_refl _) Hb.out.size)); clear hc1 hd1))
  · go_ret
    exact ⟨_, rfl, by omega, Hb.out⟩
  · go_ret
    exact ⟨_, rfl, by omega, Hb.out⟩
def tabG : List Int := [3, 3, 3, 0, 6, 7]
theorem tabG_rng : ∀ z ∈ tabG, 0 ≤ z ∧ z ≤ 7 := by decide
theorem cur_am6 {g : Nat} {A : Option Addr} {c : Nat} {zs : List Int} {K : Nat} {w : World} (hc : Cur g A c zs K w) (hK : K ≤ 2000000000000000000) :
    Calls Tryz.prog 38 #[.pointer (some ⟨g, 0, none⟩), .slice (some ⟨w.heap.size, 0, none⟩) 6 6] (w.alloc (.cells #[.int .i64 3, .int .i64 3, .int .i64 3, .int .i64 0, .int .i64 6, .int .i64 7] 3)) (AmP g A c zs K (w.alloc (.cells #[.int .i64 3, .int .i64 3, .int .i64 3, .int .i64 0, .int .i64 6, .int .i64 7] 3)) tabG) :=
  cur_among g A c zs K _ w.heap.size 3 tabG (hc.below ((Below.refl _ _).alloc (Nat.le_refl _) (.cells (icells .i64 tabG).toArray 3))) (by omega) (Bk.new w 3 _) (Nat.ne_of_gt hc.lt) (by decide) (by decide)
def DGoodP (w : World) (e : Ending) (w' : World) : Prop := ∃ (v : Value) (l : List P2) (n : Int) (u : Value), e = .returned (.tuple #[v, .int .i64 n, u]) ∧ Rd w' w'.heap.size v l.length (pcells l) ∧ l.length ≤ 30 ∧ (0 ≤ n ∧ n ≤ 7) ∧ Rd w' w'.heap.size u 3 (icells .i64 [1, 0, 2]) ∧ Below w.heap.size w w'
set_option maxHeartbeats 1600000 in
theorem spec_DrawGoodExpr (v : Value) (zs : List Int) (w : World) (hr : Rd w w.heap.size v zs.length (icells .u8 zs)) (hz : ∀ z ∈ zs, 0 ≤ z ∧ z ≤ 255) :
    Calls Tryz.prog 15 #[v] w (DGoodP w) := by
  obtain ⟨A, c, rfl, hc⟩ := cur_start hr hz
  have Hc := hide hc
  clear hr hc
  go_enter Tryz.func15, Tryz.ntmps15
  go_wp2_with (first
    | (go_at_call 21; refine (cur_anyExpr _ _ _ _ _ _ Hc.out (by decide)).mono ?_; rintro e w1 ⟨v, l, rfl, hr, hl, hc1, hd, hv⟩; have Hv := Lib.hid hv; have Hr := hide hr; have Hc := hide hc1; have Hb := hide (dw_below hd); have hgl := hc1.lt; clear hr hd hc1 hv)
    | (go_at_call 38; refine (cur_am6 Hc.out (by decide)).mono ?_; rintro e w2 ⟨n, rfl, hn, hc1, hd1⟩; have hnr := tabG_rng _ hn; have hz1 := hd1.size; have Hr := hide (Hr.out.dwn Hv.out hd1); have Hb := hide ((Hb.out.alloc Hb.out.size _).trans (hd1.below (Nat.le_refl _) (Nat.le_trans Hb.out.size (by simp)))); clear hc1 hd1 hn))
  go_ret3
  exact ⟨_, l, n, _, rfl, Hr.out.alloc _, hl, hnr, Rd.of_own (own_lit3 _), Hb.out.alloc Hb.out.size _⟩
def DHighP (w : World) (e : Ending) (w' : World) : Prop := ∃ (v : Value) (l : List P2) (u : Value), e = .returned (.tuple #[v, u]) ∧ Rd w' w'.heap.size v l.length (pcells l) ∧ l.length ≤ 30 ∧ Rd w' w'.heap.size u 3 (icells .i64 [1, 0, 2]) ∧ Below w.heap.size w w'
set_option maxHeartbeats 1600000 in
theorem spec_DrawHighOf (v : Value) (zs : List Int) (w : World) (hr : Rd w w.heap.size v zs.length (icells .u8 zs)) (hz : ∀ z ∈ zs, 0 ≤ z ∧ z ≤ 255) :
    Calls Tryz.prog 12 #[v] w (DHighP w) := by
  have H := hide (spec_DrawGoodExpr v zs w hr hz)
  clear hr hz
  go_enter Tryz.func12, Tryz.ntmps12
  go_wp2_with (go_at_call 15; refine (H.out).mono ?_; rintro e w1 ⟨v, l, n, u, rfl, hr, hl, _, hu, hb⟩; have Hr := hide hr; have Hu := hide hu; have Hb := hide hb; clear hr hu hb)
  go_ret2
  exact ⟨_, l, _, rfl, Hr.out, hl, Hu.out, Hb.out⟩
end Go.Proofs.YtheddnjhkcpmnaaGreatDoor
