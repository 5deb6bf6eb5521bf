
/- Drawn expressions: what the Go text returns. Conditions: good params. -/
import Derived.Test.YtgkjakoagdkpcaaGreatDoorExgP
import Derived.Test.YtgkjakoagdkpcaaGreatDoorSl6
import Derived.Test.YtgkjakoagdkpcaaGreatDoorDr
import Derived.Test.YtgkjakoagdkpcaaGreatDoorTokM
import Derived.Deep.Cut
set_option linter.unusedSimpArgs false
set_option linter.unusedVariables false
set_option maxRecDepth 100000
namespace Go.Proofs.YtgkjakoagdkpcaaGreatDoor
open Go.RowKit

def numTab : List Int := [0, 1, 2, 3, -1, 5, 7, 10, 2147483647, -2147483648, 0, 1]
theorem numTab_rng : ∀ z ∈ numTab, -2147483648 ≤ z ∧ z ≤ 2147483647 := by decide
def NumP (g : Nat) (A : Option Addr) (c : Nat) (zs : List Int) (K : Nat) (w : World) (e : Ending) (w' : World) : Prop := ∃ n : Int, e = .returned (.int .i64 n) ∧ (-2147483648 ≤ n ∧ n ≤ 2147483647) ∧ Cur g A c zs (K + 2) w' ∧ Dw g w w'
section
variable {g : Nat} {A : Option Addr} {c : Nat} {zs : List Int}
set_option maxHeartbeats 1600000 in
theorem cur_num (g : Nat) (A : Option Addr) (c : Nat) (zs : List Int) (K : Nat) (w : World) (hc : Cur g A c zs K w) (hK : K ≤ 2000000000000000000) :
    Calls Tryz.prog 140 #[.pointer (some ⟨g, 0, none⟩)] w (NumP g A c zs K w) := by
  have hx := cur_among g A c zs K _ w.heap.size 3 numTab (hc.below ((Below.refl _ _).alloc (Nat.le_refl _) (.cells (icells .i64 numTab).toArray 3))) (by omega) (Bk.new w 3 _) (Nat.ne_of_gt hc.lt) (by decide) (by decide)
  have HX := hide hx
  clear hx hc
  go_enter Tryz.func140, Tryz.ntmps140
  go_wp2_with (go_at_call 38; refine (HX.out).mono ?_; rintro e w1 ⟨x, rfl, hx, hc1, hd1⟩; have hr := numTab_rng _ hx; have Hc1 := hide hc1; have Hd1 := hide (((Dw.refl g w).alloc _).trans hd1); clear hc1 hd1 hx)
  go_ret
  exact ⟨_, rfl, hr, Hc1.out, Hd1.out⟩
/-- one of two ops, out of a new slice -/
theorem cur_io (K : Nat) (w : World) (hc : Cur g A c zs K w) (hK : K ≤ 2000000000000000000) :
    Calls Tryz.prog 38 #[.pointer (some ⟨g, 0, none⟩), .slice (some ⟨w.heap.size, 0, none⟩) 2 2] (w.alloc (.cells #[.int .i64 9, .int .i64 10] 3)) (AmP g A c zs K (w.alloc (.cells #[.int .i64 9, .int .i64 10] 3)) [9, 10]) :=
  cur_among g A c zs K _ w.heap.size 3 [9, 10] (hc.below ((Below.refl _ _).alloc (Nat.le_refl _) (.cells (icells .i64 [9, 10]).toArray 3))) (by omega) (Bk.new w 3 _) (Nat.ne_of_gt hc.lt) (by decide) (by decide)
/-- a drawn expression of a height -/
def ExprP (g : Nat) (A : Option Addr) (c : Nat) (zs : List Int) (K : Nat) (w : World) (vars : Int) (params : List Int) (d : Nat) (e : Ending) (w' : World) : Prop :=
  ∃ (v : Value) (l : List P2), e = .returned v ∧ w'.ownsRow w.heap.size 142 2 v l.length (pcells l) ∧ Puts vars params 1 l ∧ 1 ≤ l.length ∧ l.length ≤ eL d ∧ Cur g A c zs (K + eT d) w' ∧ Dw g w w'
theorem ExprP.lit {K K' : Nat} {w W : World} {vars : Int} {params : List Int} {d : Nat} {o n : Int} (hp : Puts vars params 1 [⟨o, n⟩]) (hc : Cur g A c zs K' W) (hK : K' ≤ K + eT d) (hd : Dw g w W) :
    ExprP g A c zs K w vars params d (.returned (.slice (some ⟨W.heap.size, 0, none⟩) 1 1)) (W.alloc (.cells #[.int .i64 o, .int .i64 n] 142)) :=
  ⟨_, [⟨o, n⟩], rfl, own_base (World.ownsRow_lit (base := W.heap.size) (e := 142) (size := 2) W #[.int .i64 o, .int .i64 n] 1 (Nat.le_refl _) (by unfold maxLen; omega) rfl) hd.size, hp, Nat.le_refl _, eL_pos d, (hc.more hK).below ((Below.refl _ _).alloc (Nat.le_refl _) _), hd.alloc _⟩
end
set_option maxHeartbeats 6400000 in
theorem cur_expr0 (g : Nat) (A : Option Addr) (c : Nat) (zs : List Int) (K : Nat) (w : World) (vars : Int) (hv0 : 0 ≤ vars) (hv6 : vars ≤ 6) (pA : Option Addr) (pn pc : Nat) (params : List Int) (pure : Bool) (hc : Cur g A c zs K w) (hK : K ≤ 1000000000000000000) :
    Calls Tryz.prog 131 #[.pointer (some ⟨g, 0, none⟩), .int .i64 0, .int .i64 vars, .slice pA pn pc, .bool pure] w (ExprP g A c zs K w vars params 0) := by
  have Hc := hide hc
  have Hd := hide (Dw.refl g w)
  have hgl := hc.lt
  clear hc
  go_enter Tryz.func131, Tryz.ntmps131
  go_wp2_with (first
    | (go_at_call_of 44 (Value.int .i64 6); refine (cur_pick _ _ _ _ _ _ _ Hc.out (by omega) (by omega)).mono ?_; rintro e w1 ⟨x, rfl, ⟨hx1, hx2⟩, hc1, hd1⟩; have Hc := hide hc1; have Hd := hide (Hd.out.trans hd1); clear hc1 hd1 hx2)
    | (go_at_call 44; refine (cur_pick _ _ _ _ _ _ _ Hc.out (by omega) (by omega)).mono ?_; rintro e w2 ⟨y, rfl, ⟨hy1, hy2⟩, hc1, hd1⟩; have hy3 := hy2 (by omega); have Hc := hide hc1; have Hd := hide (Hd.out.trans hd1); clear hc1 hd1 hy2)
    | (go_at_call 140; refine (cur_num _ _ _ _ _ _ Hc.out (by omega)).mono ?_; rintro e w3 ⟨n, rfl, hn, hc1, hd1⟩; have Hc := hide hc1; have Hd := hide (Hd.out.trans hd1); clear hc1 hd1)
    | (go_at_call 38; refine (cur_io _ _ Hc.out (by omega)).mono ?_; rintro e w4 ⟨o, rfl, ho, hc1, hd1⟩; have Hc := hide hc1; have Hd := hide ((Hd.out.alloc _).trans hd1); clear hc1 hd1))
  all_goals
    go_ret
    first
      | exact ExprP.lit (ex_var hy1 hy3) Hc.out (by simp only [eT]; omega) Hd.out
      | exact ExprP.lit (ex_io (by simpa using ho)) Hc.out (by simp only [eT]; omega) Hd.out
      | exact ExprP.lit (ex_num hn) Hc.out (by simp only [eT]; omega) Hd.out
theorem pcells_one (l : List P2) : ∀ u ∈ pcells l, u.oneCell' = true := by
  intro u hu
  unfold pcells at hu
  obtain ⟨t, _, hu⟩ := List.mem_flatMap.1 hu
  simp only [P2.cell, List.mem_cons, List.not_mem_nil, or_false] at hu
  rcases hu with rfl | rfl <;> rfl
theorem pcells_app (a b : List P2) : pcells (a ++ b) = pcells a ++ pcells b := by simp [pcells]
theorem own_keepB {w w' : World} {base n B : Nat} {e : TypeId} {size : Nat} {v : Value} {xs : List Value} (h : w.ownsRow base e size v n xs) (hv : ∀ k, v.ownBlock = some k → k < B) (hb : Below B w w') : w'.ownsRow base e size v n xs := by
  refine ⟨h.1, ?_⟩
  rcases h.2 with hn | ⟨g, cap, cur, rfl, hg, hh, r⟩
  · exact .inl hn
  · exact .inr ⟨g, cap, cur, rfl, hg, (hb.block g (hv g rfl)).trans hh, r⟩
theorem pcells_snocX (a : List P2) (t : P2) : pcells (a ++ [t]) = pcells a ++ [.int .i64 t.o, .int .i64 t.n] := by simp [pcells]; rfl
theorem own_base_le {w : World} {base n : Nat} {e : TypeId} {size : Nat} {v : Value} {xs : List Value} (h : w.ownsRow base e size v n xs) (hn : 1 ≤ n) : base ≤ w.heap.size := by
  rcases h.2 with ⟨_, rfl⟩ | ⟨g, cap, cur, hv, hg, hh, _⟩
  · omega
  · have := (Array.getElem?_eq_some_iff.1 hh).1; omega
theorem Cur.keepG2 {g : Nat} {A : Option Addr} {c : Nat} {zs : List Int} {K B : Nat} {w w1 : World} (h : Cur g A c zs K w) (hb : Below B w w1) (hB : g < B) : Cur g A c zs K w1 := by
  obtain ⟨⟨a, s, h1, h2, h3⟩, h4, h5⟩ := h
  exact ⟨⟨a, s, h1, h2, (hb.block g hB).trans h3⟩, h4.below (hb.mono (Nat.le_of_lt hB)), h5⟩
theorem Cur.gro {g : Nat} {A : Option Addr} {c : Nat} {zs : List Int} {K base n size : Nat} {e : TypeId} {xs : List Value} {v v' : Value} {w w1 : World} (h : Cur g A c zs K w) (ho : w.ownsRow base e size v n xs) (hg : g < base) (hb : base ≤ w.heap.size) (hgr : Gro w w1 v v') : Cur g A c zs K w1 :=
  h.keepG2 (hgr.toBelow ho hb) hg
theorem Dw.belowW {g B : Nat} {w W W1 : World} (h : Dw g w W) (hb : Below B W W1) (hB : w.heap.size ≤ B) : Dw g w W1 :=
  ⟨hb.os.trans h.os, hb.tape.trans h.tape, hb.output.trans h.output, Nat.le_trans h.size hb.size, fun k hk hs => (hb.block k (by omega)).trans (h.block k hk hs)⟩
theorem Dw.gro {g : Nat} {w W W1 : World} {base n size : Nat} {e : TypeId} {xs : List Value} {v v' : Value} (h : Dw g w W) (ho : W.ownsRow base e size v n xs) (hB : w.heap.size ≤ base) (hb : base ≤ W.heap.size) (hgr : Gro W W1 v v') : Dw g w W1 :=
  h.belowW (hgr.toBelow ho hb) hB
set_option maxHeartbeats 12800000 in
theorem cur_expr (g : Nat) (A : Option Addr) (c : Nat) (zs : List Int) (vars : Int) (hv0 : 0 ≤ vars) (hv6 : vars ≤ 6) (params : List Int) (hpar : parOk params = true) : ∀ (d : Nat), d ≤ 3 → ∀ (K : Nat) (w : World) (pv : Value) (base : Nat) (pure : Bool), Cur g A c zs K w → K + eT d ≤ 1000000000000000000 → w.ownsRow base 3 1 pv params.length (icells .i64 params) → g < base →
    Calls Tryz.prog 131 #[.pointer (some ⟨g, 0, none⟩), .int .i64 (d : Int), .int .i64 vars, pv, .bool pure] w (ExprP g A c zs K w vars params d) := by
  obtain ⟨hp5, hp2⟩ := parOk_iff.1 hpar
  intro d
  induction d with
  | zero =>
    intro _ K w pv base pure hc hK ho hgb
    obtain ⟨pA, pc, rfl⟩ := own_form ho
    exact cur_expr0 g A c zs K w vars hv0 hv6 pA _ pc params pure hc (by omega)
  | succ d ih =>
    intro hd3 K w pv base pure hc hK ho hgb
    obtain ⟨pA, pc, rfl⟩ := own_form ho
    have hT := eT_pos d
    have hT3 := eT3 (d := d) (by omega)
    have hL3 := eL3 (d := d) (by omega)
    have hTs : eT (d + 1) = 3 * eT d := rfl
    have hLs : eL (d + 1) = 2 * eL d + 1 := rfl
    have hLp := eL_pos d
    have he0 : eT 0 ≤ 20 := Nat.le_refl _
    have ih' := ih (by omega)
    have h0 := fun K w pure (hc : Cur g A c zs K w) hK => cur_expr0 g A c zs K w vars hv0 hv6 pA params.length pc params pure hc hK
    have Hc := hide hc
    have Hd := hide (Dw.refl g w)
    have Ho := hide ho
    have hpB : ∀ k, (Value.slice pA params.length pc).ownBlock = some k → k < w.heap.size := fun k hk => (ho.lt k hk).2
    have hgl := hc.lt
    have hdI : ¬ ((d : Int) + 1 = 0) := by omega
    have hdb : (((d : Int) + 1) == 0) = false := beq_eq_false_iff_ne.2 hdI
    have IH := Lib.hid ih'; have H0 := Lib.hid h0
    have hd3I : (d : Int) ≤ 2 := by omega
    clear hc ho ih ih' h0 hdI
    rw [show ((d + 1 : Nat) : Int) = (d : Int) + 1 from rfl]
    go_enter Tryz.func131, Tryz.ntmps131
    go_upto_if 20 with (go_at_call 68; refine (cur_one _ _ _ _ _ _ _ Hc.out (by omega) (by omega)).mono ?_; rintro e w1 ⟨b, rfl, hc1, hd1⟩; have Ho := hide (hd1.own Ho.out hgb); have Hc := hide hc1; have Hd := hide (Hd.out.trans hd1); clear hc1 hd1)
    cases b
    case true =>
      go_wp2_with (first
        | (go_at_call_of 44 (Value.int .i64 6); refine (cur_pick _ _ _ _ _ _ _ Hc.out (by omega) (by omega)).mono ?_; rintro e w1 ⟨x, rfl, ⟨hx1, hx2⟩, hc1, hd1⟩; have Hc := hide hc1; have Hd := hide (Hd.out.trans hd1); clear hc1 hd1 hx2)
        | (go_at_call 44; refine (cur_pick _ _ _ _ _ _ _ Hc.out (by omega) (by omega)).mono ?_; rintro e w2 ⟨y, rfl, ⟨hy1, hy2⟩, hc1, hd1⟩; have hy3 := hy2 (by omega); have Hc := hide hc1; have Hd := hide (Hd.out.trans hd1); clear hc1 hd1 hy2)
        | (go_at_call 140; refine (cur_num _ _ _ _ _ _ Hc.out (by omega)).mono ?_; rintro e w3 ⟨n, rfl, hn, hc1, hd1⟩; have Hc := hide hc1; have Hd := hide (Hd.out.trans hd1); clear hc1 hd1)
        | (go_at_call 38; refine (cur_io _ _ Hc.out (by omega)).mono ?_; rintro e w4 ⟨o, rfl, ho, hc1, hd1⟩; have Hc := hide hc1; have Hd := hide ((Hd.out.alloc _).trans hd1); clear hc1 hd1))
      all_goals
        go_ret
        first
          | exact ExprP.lit (ex_var hy1 hy3) Hc.out (by omega) Hd.out
          | exact ExprP.lit (ex_io (by simpa using ho)) Hc.out (by omega) Hd.out
          | exact ExprP.lit (ex_num hn) Hc.out (by omega) Hd.out
    case false =>
      cases pure
      case true =>
        go_wp2_with (first
          | (go_at_call 131; refine (IH.out _ _ _ _ _ Hc.out (by omega) Ho.out hgb).mono ?_; rintro e w6 ⟨vb, lb, rfl, hob, hpb, hlb1, hlb2, hc1, hd1⟩; have Hoa := hide (hd1.own Hoa.out (Nat.lt_of_lt_of_le hgl hza)); have hzb := Hd.out.size; have Hob := hide hob; have Hpb := Lib.hid hpb; have Ho := hide (hd1.own Ho.out hgb); have Hc := hide hc1; have Hd := hide (Hd.out.trans hd1); clear hc1 hd1 hob hpb)
          | (go_at_call 131; refine (IH.out _ _ _ _ _ Hc.out (by omega) Ho.out hgb).mono ?_; rintro e w5 ⟨va, la, rfl, hoa, hpa, hla1, hla2, hc1, hd1⟩; have hza := Hd.out.size; have Hoa := hide hoa; have Hpa := Lib.hid hpa; have Ho := hide (hd1.own Ho.out hgb); have Hc := hide hc1; have Hd := hide (Hd.out.trans hd1); clear hc1 hd1 hoa hpa)
          | (at_builtin; refine wpList_push rfl _ _ _ rfl okTok rfl Ho7.out _ rfl rfl (by simp [Value.oneCell']) (by unfold maxLen; omega) (by omega) (own_base_le Ho7.out (by omega)) ?_; intro v2 w9 hown hg9; have Ho9 := hide hown; have Hc := hide (Hc.out.keepG2 (belowPush (Below.refl _ _) Ho7.out (own_base_le Ho7.out (by omega)) hg9) (Nat.lt_of_lt_of_le hgl hza)); have Hd := hide (Hd.out.belowW (belowPush (Below.refl _ _) Ho7.out (own_base_le Ho7.out (by omega)) hg9) hza); clear hown hg9)
          | (at_builtin; refine wpList_catOwn rfl _ _ _ rfl okTok rfl Hoa.out rfl Hob.out (pcells_one _) (by unfold maxLen; omega) (by omega) (own_base_le Hoa.out (by omega)) ?_; intro v1 w7 hown hgr; have Ho7 := hide hown; have Hc := hide (Hc.out.gro Hoa.out (Nat.lt_of_lt_of_le hgl hza) (own_base_le Hoa.out (by omega)) hgr); have Hd := hide (Hd.out.gro Hoa.out hza (own_base_le Hoa.out (by omega)) hgr); clear hown hgr)
          | (go_at_call 44; refine (cur_pick _ _ _ _ _ _ _ Hc.out (by omega) (by omega)).mono ?_; rintro e w8 ⟨x, rfl, ⟨hx1, hx2⟩, hc1, hd1⟩; have hx3 := hx2 (by omega); have Ho7 := hide (hd1.own Ho7.out (Nat.lt_of_lt_of_le hgl hza)); have Hc := hide hc1; have Hd := hide (Hd.out.trans hd1); have hb8 := Hc.out.lt; clear hc1 hd1 hx2))
        go_ret
        refine ⟨_, la ++ lb ++ [⟨3 + x, 0⟩], rfl, ?_, ex_op Hpa.out Hpb.out (by omega) (by omega), by simp; omega, by simp; omega, Hc.out.more (by omega), Hd.out⟩
        have := own_base Ho9.out hza; rw [pcells_snocX, pcells_app]; simpa [Nat.add_assoc] using this
      case false =>
        by_cases hpn : 0 < params.length
        case pos =>
          have hpnI : (0 : Int) < (params.length : Int) := by omega
          go_upto_if 56 with (go_at_call 68; refine (cur_one _ _ _ _ _ _ _ Hc.out (by omega) (by omega)).mono ?_; rintro e w1 ⟨b, rfl, hc1, hd1⟩; have Ho := hide (hd1.own Ho.out hgb); have Hc := hide hc1; have Hd := hide (Hd.out.trans hd1); clear hc1 hd1)
          cases b
          case true =>
            go_wp2_with (go_at_call 44; refine (cur_pick _ _ _ _ _ _ _ Hc.out (by omega) (by omega)).mono ?_; rintro e w2 ⟨y, rfl, hy, hc1, hd1⟩; obtain ⟨f, rfl, hf⟩ := pick_nat hy hpn; have Ho := hide (hd1.own Ho.out hgb); have Hc := hide hc1; have Hd := hide (Hd.out.trans hd1); clear hc1 hd1 hy)
            have hP := hp2 _ (List.getElem_mem hf)
            have hfI : (f : Int) < (params.length : Int) := Int.ofNat_lt.2 hf
            have hf0 : (0 : Int) ≤ (f : Int) := Int.natCast_nonneg f
            have hcall := @ex_call vars params
            obtain ⟨P, hPP⟩ : ∃ P : Nat, params[f] = P := ⟨params[f].toNat, by omega⟩
            have hP2 : P ≤ 2 := by omega
            have HPP := hide hPP
            clear hPP hP
            go_loopw [12, 13] (fun e k wr => ∃ (j : Nat) (acc : List P2), j ≤ P ∧ k = .int .i64 j ∧ wr.ownsRow w.heap.size 142 2 e acc.length (pcells acc) ∧ Puts vars params j acc ∧ acc.length ≤ j ∧ Cur g A c zs (K + 6 + 20 * j) wr ∧ Dw g w wr ∧ wr.ownsRow base 3 1 (.slice pA params.length pc) params.length (icells .i64 params)) (fun _ k _ => P - (intOf k).toNat)
            case atStart => exact ⟨0, [], by omega, rfl, World.ownsRow_nil _ _ _ _, Puts.nil, Nat.le_refl _, Hc.out.more (by omega), Hd.out, Ho.out⟩
            case round =>
              obtain ⟨j, acc, hj, rfl, hoa, hpa, hal, hc1, hd1, ho1⟩ := hrel
              have Hoa := hide hoa; have Hpa := Lib.hid hpa; have Hc := hide hc1; have Hd := hide hd1; have Ho := hide ho1
              obtain ⟨pb, po, hpe, _, hcell⟩ := (Rd.of_own ho1).at_ (j := f) (by rw [icells_length]; exact hf)
              rw [icells_get _ _ hf, HPP.out] at hcell
              cases hpe
              clear hoa hpa hc1 hd1 ho1
              by_cases hlt : j < P
              · have hltI : (j : Int) < (P : Int) := by omega
                go_wp2_with (first
                  | (go_at_call 131; refine (H0.out _ _ _ Hc.out (by omega)).mono ?_; rintro e w6 ⟨vb, lb, rfl, hob, hpb, hlb1, hlb2, hc1, hd1⟩; have hlb3 : lb.length ≤ 1 := hlb2; have Hoa := hide (hd1.own Hoa.out hgl); have hzb := Hd.out.size; have Hob := hide hob; have Hpb := Lib.hid hpb; have Ho := hide (hd1.own Ho.out hgb); have Hc := hide hc1; have Hd := hide (Hd.out.trans hd1); have hz6 := Hd.out.size; clear hc1 hd1 hob hpb hlb2)
                  | (at_builtin; refine wpList_catOwn rfl _ _ _ rfl okTok rfl Hoa.out rfl Hob.out (pcells_one _) (by unfold maxLen; omega) (by omega) hz6 ?_; intro v1 w7 hown hgr; have Ho7 := hide hown; have Ho := hide (own_keepB Ho.out hpB (hgr.toBelow Hoa.out hz6)); have Hc := hide (Hc.out.gro Hoa.out hgl hz6 hgr); have Hd := hide (Hd.out.gro Hoa.out (Nat.le_refl _) hz6 hgr); clear hown hgr))
                go_roundw
                case rel => exact ⟨j + 1, acc ++ lb, by omega, by go_num, by rw [pcells_app, List.length_append]; exact Ho7.out, by have := Hpa.out.app Hpb.out (by omega); simpa using this, by rw [List.length_append]; omega, Hc.out.more (by omega), Hd.out, Ho.out⟩
                case measure => simp [intOf]; omega
              · obtain rfl : j = P := by omega
                have hltI : ¬ (j : Int) < (j : Int) := by omega
                have Hex := hide (hcall hf (by rw [HPP.out]; exact Hpa.out) (by rw [HPP.out]; omega))
                clear hcall
                go_wp2_with (at_builtin; refine wpList_push rfl _ _ _ rfl okTok rfl Hoa.out _ rfl rfl (by simp [Value.oneCell']) (by unfold maxLen; omega) (by omega) Hd.out.size ?_; intro v2 w9 hown hg9; have Ho9 := hide hown; have Hc := hide (Hc.out.keepG2 (belowPush (Below.refl _ _) Hoa.out Hd.out.size hg9) hgl); have Hd := hide (Hd.out.belowW (belowPush (Below.refl _ _) Hoa.out Hd.out.size hg9) (Nat.le_refl _)); clear hown hg9)
                go_ret
                refine ⟨_, acc ++ [⟨11, f⟩], rfl, ?_, Hex.out, by simp, by simp; omega, Hc.out.more (by omega), Hd.out⟩
                rw [pcells_snocX]; simpa using Ho9.out
          case false =>
            go_wp2_with (first
              | (go_at_call 131; refine (IH.out _ _ _ _ _ Hc.out (by omega) Ho.out hgb).mono ?_; rintro e w6 ⟨vb, lb, rfl, hob, hpb, hlb1, hlb2, hc1, hd1⟩; have Hoa := hide (hd1.own Hoa.out (Nat.lt_of_lt_of_le hgl hza)); have hzb := Hd.out.size; have Hob := hide hob; have Hpb := Lib.hid hpb; have Ho := hide (hd1.own Ho.out hgb); have Hc := hide hc1; have Hd := hide (Hd.out.trans hd1); clear hc1 hd1 hob hpb)
              | (go_at_call 131; refine (IH.out _ _ _ _ _ Hc.out (by omega) Ho.out hgb).mono ?_; rintro e w5 ⟨va, la, rfl, hoa, hpa, hla1, hla2, hc1, hd1⟩; have hza := Hd.out.size; have Hoa := hide hoa; have Hpa := Lib.hid hpa; have Ho := hide (hd1.own Ho.out hgb); have Hc := hide hc1; have Hd := hide (Hd.out.trans hd1); clear hc1 hd1 hoa hpa)
              | (at_builtin; refine wpList_push rfl _ _ _ rfl okTok rfl Ho7.out _ rfl rfl (by simp [Value.oneCell']) (by unfold maxLen; omega) (by omega) (own_base_le Ho7.out (by omega)) ?_; intro v2 w9 hown hg9; have Ho9 := hide hown; have Hc := hide (Hc.out.keepG2 (belowPush (Below.refl _ _) Ho7.out (own_base_le Ho7.out (by omega)) hg9) (Nat.lt_of_lt_of_le hgl hza)); have Hd := hide (Hd.out.belowW (belowPush (Below.refl _ _) Ho7.out (own_base_le Ho7.out (by omega)) hg9) hza); clear hown hg9)
              | (at_builtin; refine wpList_catOwn rfl _ _ _ rfl okTok rfl Hoa.out rfl Hob.out (pcells_one _) (by unfold maxLen; omega) (by omega) (own_base_le Hoa.out (by omega)) ?_; intro v1 w7 hown hgr; have Ho7 := hide hown; have Hc := hide (Hc.out.gro Hoa.out (Nat.lt_of_lt_of_le hgl hza) (own_base_le Hoa.out (by omega)) hgr); have Hd := hide (Hd.out.gro Hoa.out hza (own_base_le Hoa.out (by omega)) hgr); clear hown hgr)
              | (go_at_call 44; refine (cur_pick _ _ _ _ _ _ _ Hc.out (by omega) (by omega)).mono ?_; rintro e w8 ⟨x, rfl, ⟨hx1, hx2⟩, hc1, hd1⟩; have hx3 := hx2 (by omega); have Ho7 := hide (hd1.own Ho7.out (Nat.lt_of_lt_of_le hgl hza)); have Hc := hide hc1; have Hd := hide (Hd.out.trans hd1); have hb8 := Hc.out.lt; clear hc1 hd1 hx2))
            go_ret
            refine ⟨_, la ++ lb ++ [⟨3 + x, 0⟩], rfl, ?_, ex_op Hpa.out Hpb.out (by omega) (by omega), by simp; omega, by simp; omega, Hc.out.more (by omega), Hd.out⟩
            have := own_base Ho9.out hza; rw [pcells_snocX, pcells_app]; simpa [Nat.add_assoc] using this
        case neg =>
          have hpnI : ¬ (0 : Int) < (params.length : Int) := by omega
          go_wp2_with (first
            | (go_at_call 131; refine (IH.out _ _ _ _ _ Hc.out (by omega) Ho.out hgb).mono ?_; rintro e w6 ⟨vb, lb, rfl, hob, hpb, hlb1, hlb2, hc1, hd1⟩; have Hoa := hide (hd1.own Hoa.out (Nat.lt_of_lt_of_le hgl hza)); have hzb := Hd.out.size; have Hob := hide hob; have Hpb := Lib.hid hpb; have Ho := hide (hd1.own Ho.out hgb); have Hc := hide hc1; have Hd := hide (Hd.out.trans hd1); clear hc1 hd1 hob hpb)
            | (go_at_call 131; refine (IH.out _ _ _ _ _ Hc.out (by omega) Ho.out hgb).mono ?_; rintro e w5 ⟨va, la, rfl, hoa, hpa, hla1, hla2, hc1, hd1⟩; have hza := Hd.out.size; have Hoa := hide hoa; have Hpa := Lib.hid hpa; have Ho := hide (hd1.own Ho.out hgb); have Hc := hide hc1; have Hd := hide (Hd.out.trans hd1); clear hc1 hd1 hoa hpa)
            | (at_builtin; refine wpList_push rfl _ _ _ rfl okTok rfl Ho7.out _ rfl rfl (by simp [Value.oneCell']) (by unfold maxLen; omega) (by omega) (own_base_le Ho7.out (by omega)) ?_; intro v2 w9 hown hg9; have Ho9 := hide hown; have Hc := hide (Hc.out.keepG2 (belowPush (Below.refl _ _) Ho7.out (own_base_le Ho7.out (by omega)) hg9) (Nat.lt_of_lt_of_le hgl hza)); have Hd := hide (Hd.out.belowW (belowPush (Below.refl _ _) Ho7.out (own_base_le Ho7.out (by omega)) hg9) hza); clear hown hg9)
            | (at_builtin; refine wpList_catOwn rfl _ _ _ rfl okTok rfl Hoa.out rfl Hob.out (pcells_one _) (by unfold maxLen; omega) (by omega) (own_base_le Hoa.out (by omega)) ?_; intro v1 w7 hown hgr; have Ho7 := hide hown; have Hc := hide (Hc.out.gro Hoa.out (Nat.lt_of_lt_of_le hgl hza) (own_base_le Hoa.out (by omega)) hgr); have Hd := hide (Hd.out.gro Hoa.out hza (own_base_le Hoa.out (by omega)) hgr); clear hown hgr)
            | (go_at_call 44; refine (cur_pick _ _ _ _ _ _ _ Hc.out (by omega) (by omega)).mono ?_; rintro e w8 ⟨x, rfl, ⟨hx1, hx2⟩, hc1, hd1⟩; have hx3 := hx2 (by omega); have Ho7 := hide (hd1.own Ho7.out (Nat.lt_of_lt_of_le hgl hza)); have Hc := hide hc1; have Hd := hide (Hd.out.trans hd1); have hb8 := Hc.out.lt; clear hc1 hd1 hx2))
          go_ret
          refine ⟨_, la ++ lb ++ [⟨3 + x, 0⟩], rfl, ?_, ex_op Hpa.out Hpb.out (by omega) (by omega), by simp; omega, by simp; omega, Hc.out.more (by omega), Hd.out⟩
          have := own_base Ho9.out hza; rw [pcells_snocX, pcells_app]; simpa [Nat.add_assoc] using this
end Go.Proofs.YtgkjakoagdkpcaaGreatDoor
